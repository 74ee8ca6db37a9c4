/- Part 6 of the texts of this claim: what its theorem leans on. -/
import Derived.Test.YtlijhnfnceidjaaGreatDoorZConflictSizes5
namespace Go.GV
open Go Go.GK Go.Proofs
def la135 : Nat → Option Pat := fun _ => none
def pr135 : Nat → List Gh := fun _ => []
def po135 : Nat → List Gh := fun _ => []
noncomputable def ph135 (fu : Nat) : Nat → Option (CQ (nEs [(80, 0), (81, 0), (88, 1), (89, 1), (110, 2), (111, 2)] [2, 2, 5]))
  | 111 => some (.dat (Q48 fu))
  | 112 => some (.dat (Q105 fu))
  | 113 => some (.dat (Q115 fu))
  | _ => none
theorem h135 (fu : Nat) : ∀ f q, ph135 fu f = some q → SoundC Tryz.prog f q := by
  intro f q h
  unfold ph135 at h
  split at h
  · cases h; exact zs48 fu
  · cases h; exact zs105 fu
  · cases h; exact zs115 fu
  · cases h
noncomputable def cx135 (fu : Nat) : Cx (nEs [(80, 0), (81, 0), (88, 1), (89, 1), (110, 2), (111, 2)] [2, 2, 5]) := ⟨Tryz.prog, ph135 fu, la135, fun _ => none, pr135, po135, 0, 43⟩
def pi135 : Pat := ⟨[.dat (.st (.pr .bool (.pr .bool (.pr .bool (.pr (.st (.pr (.sl (.st (.pr (.int .i64) (.int .i64)))) (.sl (.st (.pr (.int .i64) (.int .i64)))))) (.st (.sl (.st (.pr .bool (.sl (.st (.pr (.int .u8) (.pr (.int .u8) (.int .i64))))))))))))))], [(0, .v 0 (.st (.pr .bool (.pr .bool (.pr .bool (.pr (.st (.pr (.sl (.st (.pr (.int .i64) (.int .i64)))) (.sl (.st (.pr (.int .i64) (.int .i64)))))) (.st (.sl (.st (.pr .bool (.sl (.st (.pr (.int .u8) (.pr (.int .u8) (.int .i64)))))))))))))))], [], 0⟩
def qo135 : Pat := ⟨[.dat (.int .i64), .dat (.int .i64), .dat .str, .dat (.sl (.nm 2)), .dat (.sl (.st (.pr .str (.nm 2)))), .dat .bool], [(0, .sv [(1, 0, (.int .i64)), (1, 1, (.int .i64)), (1, 2, .str), (1, 3, (.sl (.nm 2))), (1, 4, (.sl (.st (.pr .str (.nm 2)))))]), (1, .v 5 .bool)], [], 0⟩
noncomputable def Q135 (fu : Nat) : PQ (nEs [(80, 0), (81, 0), (88, 1), (89, 1), (110, 2), (111, 2)] [2, 2, 5]) := ⟨pi135, qo135, 2, [], fdenP (cx135 fu) fu Tryz.f75 pi135 qo135 2⟩
theorem zs135 (fu : Nat) : SoundP Tryz.prog 75 (Q135 fu) := fdenP_ok (cx := cx135 fu) (h135 fu) follows ent75 Tryz.func75 rfl rfl
def la136 : Nat → Option Pat := fun _ => none
def pr136 : Nat → List Gh := fun _ => []
def po136 : Nat → List Gh := fun _ => []
noncomputable def ph136 (fu : Nat) : Nat → Option (CQ (nEs [(80, 0), (81, 0), (88, 1), (89, 1), (110, 2), (111, 2)] [2, 2, 5]))
  | 75 => some (.pats [Q135 fu])
  | _ => none
theorem h136 (fu : Nat) : ∀ f q, ph136 fu f = some q → SoundC Tryz.prog f q := by
  intro f q h
  unfold ph136 at h
  split at h
  · cases h; exact (patsC (zs135 fu) patsN)
  · cases h
noncomputable def cx136 (fu : Nat) : Cx (nEs [(80, 0), (81, 0), (88, 1), (89, 1), (110, 2), (111, 2)] [2, 2, 5]) := ⟨Tryz.prog, ph136 fu, la136, fun _ => none, pr136, po136, 0, 12⟩
noncomputable def Q136 (fu : Nat) : FQ (nEs [(80, 0), (81, 0), (88, 1), (89, 1), (110, 2), (111, 2)] [2, 2, 5]) := ⟨[(.st (.pr .bool (.pr .bool (.pr .bool (.pr (.st (.pr (.sl (.st (.pr (.int .i64) (.int .i64)))) (.sl (.st (.pr (.int .i64) (.int .i64)))))) (.st (.sl (.st (.pr .bool (.sl (.st (.pr (.int .u8) (.pr (.int .u8) (.int .i64))))))))))))))], [.bool], fden (cx136 fu) fu Tryz.f49 [(.st (.pr .bool (.pr .bool (.pr .bool (.pr (.st (.pr (.sl (.st (.pr (.int .i64) (.int .i64)))) (.sl (.st (.pr (.int .i64) (.int .i64)))))) (.st (.sl (.st (.pr .bool (.sl (.st (.pr (.int .u8) (.pr (.int .u8) (.int .i64))))))))))))))] [.bool]⟩
theorem zs136 (fu : Nat) : SoundQ Tryz.prog 49 (Q136 fu) := fden_ok (cx := cx136 fu) (h136 fu) follows ent49 Tryz.func49 rfl rfl
def la137 : Nat → Option Pat := fun _ => none
def pr137 : Nat → List Gh := fun _ => []
def po137 : Nat → List Gh := fun _ => []
noncomputable def ph137 (fu : Nat) : Nat → Option (CQ (nEs [(80, 0), (81, 0), (88, 1), (89, 1), (110, 2), (111, 2)] [2, 2, 5]))
  | 49 => some (.dat (Q136 fu))
  | 216 => some (.dat (Q134 fu))
  | _ => none
theorem h137 (fu : Nat) : ∀ f q, ph137 fu f = some q → SoundC Tryz.prog f q := by
  intro f q h
  unfold ph137 at h
  split at h
  · cases h; exact zs136 fu
  · cases h; exact zs134 fu
  · cases h
noncomputable def cx137 (fu : Nat) : Cx (nEs [(80, 0), (81, 0), (88, 1), (89, 1), (110, 2), (111, 2)] [2, 2, 5]) := ⟨Tryz.prog, ph137 fu, la137, fun _ => none, pr137, po137, 0, 9⟩
noncomputable def Q137 (fu : Nat) : FQ (nEs [(80, 0), (81, 0), (88, 1), (89, 1), (110, 2), (111, 2)] [2, 2, 5]) := ⟨[(.st (.pr .bool (.pr .bool (.pr .bool (.pr (.st (.pr (.sl (.st (.pr (.int .i64) (.int .i64)))) (.sl (.st (.pr (.int .i64) (.int .i64)))))) (.st (.sl (.st (.pr .bool (.sl (.st (.pr (.int .u8) (.pr (.int .u8) (.int .i64)))))))))))))), (.st (.pr .bool (.pr .bool (.pr .bool (.pr (.st (.pr (.sl (.st (.pr (.int .i64) (.int .i64)))) (.sl (.st (.pr (.int .i64) (.int .i64)))))) (.st (.sl (.st (.pr .bool (.sl (.st (.pr (.int .u8) (.pr (.int .u8) (.int .i64))))))))))))))], [.bool], fden (cx137 fu) fu Tryz.f146 [(.st (.pr .bool (.pr .bool (.pr .bool (.pr (.st (.pr (.sl (.st (.pr (.int .i64) (.int .i64)))) (.sl (.st (.pr (.int .i64) (.int .i64)))))) (.st (.sl (.st (.pr .bool (.sl (.st (.pr (.int .u8) (.pr (.int .u8) (.int .i64)))))))))))))), (.st (.pr .bool (.pr .bool (.pr .bool (.pr (.st (.pr (.sl (.st (.pr (.int .i64) (.int .i64)))) (.sl (.st (.pr (.int .i64) (.int .i64)))))) (.st (.sl (.st (.pr .bool (.sl (.st (.pr (.int .u8) (.pr (.int .u8) (.int .i64))))))))))))))] [.bool]⟩
theorem zs137 (fu : Nat) : SoundQ Tryz.prog 146 (Q137 fu) := fden_ok (cx := cx137 fu) (h137 fu) follows ent146 Tryz.func146 rfl rfl
def la138 : Nat → Option Pat := fun _ => none
def pr138 : Nat → List Gh := fun _ => []
def po138 : Nat → List Gh := fun _ => []
def ph138 (_ : Nat) : Nat → Option (CQ (nEs [(80, 0), (81, 0), (88, 1), (89, 1), (110, 2), (111, 2)] [2, 2, 5])) := fun _ => none
theorem h138 (fu : Nat) : ∀ f q, ph138 fu f = some q → SoundC Tryz.prog f q := fun _ _ h => by cases h
noncomputable def cx138 (fu : Nat) : Cx (nEs [(80, 0), (81, 0), (88, 1), (89, 1), (110, 2), (111, 2)] [2, 2, 5]) := ⟨Tryz.prog, ph138 fu, la138, fun _ => none, pr138, po138, 0, 74⟩
noncomputable def Q138 (fu : Nat) : FQ (nEs [(80, 0), (81, 0), (88, 1), (89, 1), (110, 2), (111, 2)] [2, 2, 5]) := ⟨[(.nm 0), (.nm 0)], [.bool], fden (cx138 fu) fu Tryz.f140 [(.nm 0), (.nm 0)] [.bool]⟩
theorem zs138 (fu : Nat) : SoundQ Tryz.prog 140 (Q138 fu) := fden_ok (cx := cx138 fu) (h138 fu) follows ent140 Tryz.func140 rfl rfl
def la139 : Nat → Option Pat := fun _ => none
def pr139 : Nat → List Gh := fun _ => []
def po139 : Nat → List Gh := fun _ => []
noncomputable def ph139 (fu : Nat) : Nat → Option (CQ (nEs [(80, 0), (81, 0), (88, 1), (89, 1), (110, 2), (111, 2)] [2, 2, 5]))
  | 140 => some (.dat (Q138 fu))
  | _ => none
theorem h139 (fu : Nat) : ∀ f q, ph139 fu f = some q → SoundC Tryz.prog f q := by
  intro f q h
  unfold ph139 at h
  split at h
  · cases h; exact zs138 fu
  · cases h
noncomputable def cx139 (fu : Nat) : Cx (nEs [(80, 0), (81, 0), (88, 1), (89, 1), (110, 2), (111, 2)] [2, 2, 5]) := ⟨Tryz.prog, ph139 fu, la139, fun _ => none, pr139, po139, 2, 9⟩
def pi139 : Pat := ⟨[.dat (.nm 0), .dat (.nm 0)], [(0, .v 0 (.nm 0)), (1, .loc 0 0), (2, .loc 1 0)], [(0, .blk 84 [(1, .clo 140 [] [])]), (1, .blk 81 [(2, .v 1 (.nm 0))])], 2⟩
def qo139 : Pat := ⟨[.dat .bool, .dat (.nm 0)], [(0, .v 0 .bool)], [(0, .blk 84 [(1, .clo 140 [] [])]), (1, .blk 81 [(2, .v 1 (.nm 0))])], 2⟩
noncomputable def Q139 (fu : Nat) : PQ (nEs [(80, 0), (81, 0), (88, 1), (89, 1), (110, 2), (111, 2)] [2, 2, 5]) := ⟨pi139, qo139, 1, [], fdenP (cx139 fu) fu Tryz.f218 pi139 qo139 1⟩
theorem zs139 (fu : Nat) : SoundP Tryz.prog 218 (Q139 fu) := fdenP_ok (cx := cx139 fu) (h139 fu) follows ent218 Tryz.func218 rfl rfl
def la140 : Nat → Option Pat
  | 2 => some ⟨[.dat (.nm 0), .nat], [(0, .keep), (1, .keep), (7, .keep), (8, .cnt 1 201)], [(1, .blk 81 [(2, .v 0 (.nm 0))]), (0, .blk 84 [(1, .clo 140 [] [])])], 2⟩
  | _ => none
def pr140 : Nat → List Gh := fun _ => []
def po140 : Nat → List Gh := fun _ => []
noncomputable def ph140 (fu : Nat) : Nat → Option (CQ (nEs [(80, 0), (81, 0), (88, 1), (89, 1), (110, 2), (111, 2)] [2, 2, 5]))
  | 218 => some (.pats [Q139 fu])
  | _ => none
theorem h140 (fu : Nat) : ∀ f q, ph140 fu f = some q → SoundC Tryz.prog f q := by
  intro f q h
  unfold ph140 at h
  split at h
  · cases h; exact (patsC (zs139 fu) patsN)
  · cases h
noncomputable def cx140 (fu : Nat) : Cx (nEs [(80, 0), (81, 0), (88, 1), (89, 1), (110, 2), (111, 2)] [2, 2, 5]) := ⟨Tryz.prog, ph140 fu, la140, fun _ => none, pr140, po140, 2, 19⟩
def pi140 : Pat := ⟨[.dat (.sl (.nm 0)), .dat (.nm 0)], [(0, .v 0 (.sl (.nm 0))), (1, .clo 218 [] [0, 1])], [(0, .blk 84 [(1, .clo 140 [] [])]), (1, .blk 81 [(2, .v 1 (.nm 0))])], 2⟩
def qo140 : Pat := ⟨[.dat (.int .i64), .dat (.nm 0)], [(0, .v 0 (.int .i64))], [(0, .blk 84 [(1, .clo 140 [] [])]), (1, .blk 81 [(2, .v 1 (.nm 0))])], 2⟩
noncomputable def Q140 (fu : Nat) : PQ (nEs [(80, 0), (81, 0), (88, 1), (89, 1), (110, 2), (111, 2)] [2, 2, 5]) := ⟨pi140, qo140, 1, [], fdenP (cx140 fu) fu Tryz.f286 pi140 qo140 1⟩
theorem zs140 (fu : Nat) : SoundP Tryz.prog 286 (Q140 fu) := fdenP_ok (cx := cx140 fu) (h140 fu) follows ent286 Tryz.func286 rfl rfl
def la141 : Nat → Option Pat := fun _ => none
def pr141 : Nat → List Gh := fun _ => []
def po141 : Nat → List Gh := fun _ => []
noncomputable def ph141 (fu : Nat) : Nat → Option (CQ (nEs [(80, 0), (81, 0), (88, 1), (89, 1), (110, 2), (111, 2)] [2, 2, 5]))
  | 286 => some (.pats [Q140 fu])
  | _ => none
theorem h141 (fu : Nat) : ∀ f q, ph141 fu f = some q → SoundC Tryz.prog f q := by
  intro f q h
  unfold ph141 at h
  split at h
  · cases h; exact (patsC (zs140 fu) patsN)
  · cases h
noncomputable def cx141 (fu : Nat) : Cx (nEs [(80, 0), (81, 0), (88, 1), (89, 1), (110, 2), (111, 2)] [2, 2, 5]) := ⟨Tryz.prog, ph141 fu, la141, fun _ => none, pr141, po141, 2, 9⟩
def pi141 : Pat := ⟨[.dat (.sl (.nm 0)), .dat (.nm 0)], [(0, .v 0 (.sl (.nm 0))), (1, .clo 218 [] [0, 1])], [(0, .blk 84 [(1, .clo 140 [] [])]), (1, .blk 81 [(2, .v 1 (.nm 0))])], 2⟩
def qo141 : Pat := ⟨[.dat .bool, .dat (.nm 0)], [(0, .v 0 .bool)], [(0, .blk 84 [(1, .clo 140 [] [])]), (1, .blk 81 [(2, .v 1 (.nm 0))])], 2⟩
noncomputable def Q141 (fu : Nat) : PQ (nEs [(80, 0), (81, 0), (88, 1), (89, 1), (110, 2), (111, 2)] [2, 2, 5]) := ⟨pi141, qo141, 1, [], fdenP (cx141 fu) fu Tryz.f217 pi141 qo141 1⟩
theorem zs141 (fu : Nat) : SoundP Tryz.prog 217 (Q141 fu) := fdenP_ok (cx := cx141 fu) (h141 fu) follows ent217 Tryz.func217 rfl rfl
def la142 : Nat → Option Pat
  | 2 => some ⟨[.nat], [(1, .keep), (5, .keep), (9, .keep), (10, .keep), (11, .cnt 0 200)], [(0, .blk 84 [(1, .clo 140 [] [])])], 1⟩
  | _ => none
def pr142 : Nat → List Gh := fun _ => []
def po142 : Nat → List Gh := fun _ => []
noncomputable def ph142 (fu : Nat) : Nat → Option (CQ (nEs [(80, 0), (81, 0), (88, 1), (89, 1), (110, 2), (111, 2)] [2, 2, 5]))
  | 217 => some (.pats [Q141 fu])
  | _ => none
theorem h142 (fu : Nat) : ∀ f q, ph142 fu f = some q → SoundC Tryz.prog f q := by
  intro f q h
  unfold ph142 at h
  split at h
  · cases h; exact (patsC (zs141 fu) patsN)
  · cases h
noncomputable def cx142 (fu : Nat) : Cx (nEs [(80, 0), (81, 0), (88, 1), (89, 1), (110, 2), (111, 2)] [2, 2, 5]) := ⟨Tryz.prog, ph142 fu, la142, fun _ => none, pr142, po142, 0, 20⟩
def pi142 : Pat := ⟨[.dat (.sl (.nm 0)), .dat (.sl (.nm 0))], [(0, .v 0 (.sl (.nm 0))), (1, .v 1 (.sl (.nm 0))), (2, .clo 140 [] [])], [], 0⟩
def qo142 : Pat := ⟨[.dat .bool], [(0, .v 0 .bool)], [], 0⟩
noncomputable def Q142 (fu : Nat) : PQ (nEs [(80, 0), (81, 0), (88, 1), (89, 1), (110, 2), (111, 2)] [2, 2, 5]) := ⟨pi142, qo142, 1, [], fdenP (cx142 fu) fu Tryz.f147 pi142 qo142 1⟩
theorem zs142 (fu : Nat) : SoundP Tryz.prog 147 (Q142 fu) := fdenP_ok (cx := cx142 fu) (h142 fu) follows ent147 Tryz.func147 rfl rfl
def la143 : Nat → Option Pat := fun _ => none
def pr143 : Nat → List Gh := fun _ => []
def po143 : Nat → List Gh := fun _ => []
def ph143 (_ : Nat) : Nat → Option (CQ (nEs [(80, 0), (81, 0), (88, 1), (89, 1), (110, 2), (111, 2)] [2, 2, 5])) := fun _ => none
theorem h143 (fu : Nat) : ∀ f q, ph143 fu f = some q → SoundC Tryz.prog f q := fun _ _ h => by cases h
noncomputable def cx143 (fu : Nat) : Cx (nEs [(80, 0), (81, 0), (88, 1), (89, 1), (110, 2), (111, 2)] [2, 2, 5]) := ⟨Tryz.prog, ph143 fu, la143, fun _ => none, pr143, po143, 0, 97⟩
noncomputable def Q143 (fu : Nat) : FQ (nEs [(80, 0), (81, 0), (88, 1), (89, 1), (110, 2), (111, 2)] [2, 2, 5]) := ⟨[(.nm 1), (.nm 1)], [.bool], fden (cx143 fu) fu Tryz.f143 [(.nm 1), (.nm 1)] [.bool]⟩
theorem zs143 (fu : Nat) : SoundQ Tryz.prog 143 (Q143 fu) := fden_ok (cx := cx143 fu) (h143 fu) follows ent143 Tryz.func143 rfl rfl
def la144 : Nat → Option Pat := fun _ => none
def pr144 : Nat → List Gh := fun _ => []
def po144 : Nat → List Gh := fun _ => []
noncomputable def ph144 (fu : Nat) : Nat → Option (CQ (nEs [(80, 0), (81, 0), (88, 1), (89, 1), (110, 2), (111, 2)] [2, 2, 5]))
  | 143 => some (.dat (Q143 fu))
  | _ => none
theorem h144 (fu : Nat) : ∀ f q, ph144 fu f = some q → SoundC Tryz.prog f q := by
  intro f q h
  unfold ph144 at h
  split at h
  · cases h; exact zs143 fu
  · cases h
noncomputable def cx144 (fu : Nat) : Cx (nEs [(80, 0), (81, 0), (88, 1), (89, 1), (110, 2), (111, 2)] [2, 2, 5]) := ⟨Tryz.prog, ph144 fu, la144, fun _ => none, pr144, po144, 2, 9⟩
def pi144 : Pat := ⟨[.dat (.nm 1), .dat (.nm 1)], [(0, .v 0 (.nm 1)), (1, .loc 0 0), (2, .loc 1 0)], [(0, .blk 91 [(1, .clo 143 [] [])]), (1, .blk 89 [(2, .v 1 (.nm 1))])], 2⟩
def qo144 : Pat := ⟨[.dat .bool, .dat (.nm 1)], [(0, .v 0 .bool)], [(0, .blk 91 [(1, .clo 143 [] [])]), (1, .blk 89 [(2, .v 1 (.nm 1))])], 2⟩
noncomputable def Q144 (fu : Nat) : PQ (nEs [(80, 0), (81, 0), (88, 1), (89, 1), (110, 2), (111, 2)] [2, 2, 5]) := ⟨pi144, qo144, 1, [], fdenP (cx144 fu) fu Tryz.f220 pi144 qo144 1⟩
theorem zs144 (fu : Nat) : SoundP Tryz.prog 220 (Q144 fu) := fdenP_ok (cx := cx144 fu) (h144 fu) follows ent220 Tryz.func220 rfl rfl
def la145 : Nat → Option Pat
  | 2 => some ⟨[.dat (.nm 1), .nat], [(0, .keep), (1, .keep), (7, .keep), (8, .cnt 1 201)], [(1, .blk 89 [(2, .v 0 (.nm 1))]), (0, .blk 91 [(1, .clo 143 [] [])])], 2⟩
  | _ => none
def pr145 : Nat → List Gh := fun _ => []
def po145 : Nat → List Gh := fun _ => []
noncomputable def ph145 (fu : Nat) : Nat → Option (CQ (nEs [(80, 0), (81, 0), (88, 1), (89, 1), (110, 2), (111, 2)] [2, 2, 5]))
  | 220 => some (.pats [Q144 fu])
  | _ => none
theorem h145 (fu : Nat) : ∀ f q, ph145 fu f = some q → SoundC Tryz.prog f q := by
  intro f q h
  unfold ph145 at h
  split at h
  · cases h; exact (patsC (zs144 fu) patsN)
  · cases h
noncomputable def cx145 (fu : Nat) : Cx (nEs [(80, 0), (81, 0), (88, 1), (89, 1), (110, 2), (111, 2)] [2, 2, 5]) := ⟨Tryz.prog, ph145 fu, la145, fun _ => none, pr145, po145, 2, 19⟩
def pi145 : Pat := ⟨[.dat (.sl (.nm 1)), .dat (.nm 1)], [(0, .v 0 (.sl (.nm 1))), (1, .clo 220 [] [0, 1])], [(0, .blk 91 [(1, .clo 143 [] [])]), (1, .blk 89 [(2, .v 1 (.nm 1))])], 2⟩
def qo145 : Pat := ⟨[.dat (.int .i64), .dat (.nm 1)], [(0, .v 0 (.int .i64))], [(0, .blk 91 [(1, .clo 143 [] [])]), (1, .blk 89 [(2, .v 1 (.nm 1))])], 2⟩
noncomputable def Q145 (fu : Nat) : PQ (nEs [(80, 0), (81, 0), (88, 1), (89, 1), (110, 2), (111, 2)] [2, 2, 5]) := ⟨pi145, qo145, 1, [], fdenP (cx145 fu) fu Tryz.f287 pi145 qo145 1⟩
theorem zs145 (fu : Nat) : SoundP Tryz.prog 287 (Q145 fu) := fdenP_ok (cx := cx145 fu) (h145 fu) follows ent287 Tryz.func287 rfl rfl
def la146 : Nat → Option Pat := fun _ => none
def pr146 : Nat → List Gh := fun _ => []
def po146 : Nat → List Gh := fun _ => []
noncomputable def ph146 (fu : Nat) : Nat → Option (CQ (nEs [(80, 0), (81, 0), (88, 1), (89, 1), (110, 2), (111, 2)] [2, 2, 5]))
  | 287 => some (.pats [Q145 fu])
  | _ => none
theorem h146 (fu : Nat) : ∀ f q, ph146 fu f = some q → SoundC Tryz.prog f q := by
  intro f q h
  unfold ph146 at h
  split at h
  · cases h; exact (patsC (zs145 fu) patsN)
  · cases h
noncomputable def cx146 (fu : Nat) : Cx (nEs [(80, 0), (81, 0), (88, 1), (89, 1), (110, 2), (111, 2)] [2, 2, 5]) := ⟨Tryz.prog, ph146 fu, la146, fun _ => none, pr146, po146, 2, 9⟩
def pi146 : Pat := ⟨[.dat (.sl (.nm 1)), .dat (.nm 1)], [(0, .v 0 (.sl (.nm 1))), (1, .clo 220 [] [0, 1])], [(0, .blk 91 [(1, .clo 143 [] [])]), (1, .blk 89 [(2, .v 1 (.nm 1))])], 2⟩
def qo146 : Pat := ⟨[.dat .bool, .dat (.nm 1)], [(0, .v 0 .bool)], [(0, .blk 91 [(1, .clo 143 [] [])]), (1, .blk 89 [(2, .v 1 (.nm 1))])], 2⟩
noncomputable def Q146 (fu : Nat) : PQ (nEs [(80, 0), (81, 0), (88, 1), (89, 1), (110, 2), (111, 2)] [2, 2, 5]) := ⟨pi146, qo146, 1, [], fdenP (cx146 fu) fu Tryz.f219 pi146 qo146 1⟩
theorem zs146 (fu : Nat) : SoundP Tryz.prog 219 (Q146 fu) := fdenP_ok (cx := cx146 fu) (h146 fu) follows ent219 Tryz.func219 rfl rfl
def la147 : Nat → Option Pat
  | 2 => some ⟨[.nat], [(1, .keep), (5, .keep), (9, .keep), (10, .keep), (11, .cnt 0 200)], [(0, .blk 91 [(1, .clo 143 [] [])])], 1⟩
  | _ => none
def pr147 : Nat → List Gh := fun _ => []
def po147 : Nat → List Gh := fun _ => []
noncomputable def ph147 (fu : Nat) : Nat → Option (CQ (nEs [(80, 0), (81, 0), (88, 1), (89, 1), (110, 2), (111, 2)] [2, 2, 5]))
  | 219 => some (.pats [Q146 fu])
  | _ => none
theorem h147 (fu : Nat) : ∀ f q, ph147 fu f = some q → SoundC Tryz.prog f q := by
  intro f q h
  unfold ph147 at h
  split at h
  · cases h; exact (patsC (zs146 fu) patsN)
  · cases h
noncomputable def cx147 (fu : Nat) : Cx (nEs [(80, 0), (81, 0), (88, 1), (89, 1), (110, 2), (111, 2)] [2, 2, 5]) := ⟨Tryz.prog, ph147 fu, la147, fun _ => none, pr147, po147, 0, 20⟩
def pi147 : Pat := ⟨[.dat (.sl (.nm 1)), .dat (.sl (.nm 1))], [(0, .v 0 (.sl (.nm 1))), (1, .v 1 (.sl (.nm 1))), (2, .clo 143 [] [])], [], 0⟩
def qo147 : Pat := ⟨[.dat .bool], [(0, .v 0 .bool)], [], 0⟩
noncomputable def Q147 (fu : Nat) : PQ (nEs [(80, 0), (81, 0), (88, 1), (89, 1), (110, 2), (111, 2)] [2, 2, 5]) := ⟨pi147, qo147, 1, [], fdenP (cx147 fu) fu Tryz.f148 pi147 qo147 1⟩
theorem zs147 (fu : Nat) : SoundP Tryz.prog 148 (Q147 fu) := fdenP_ok (cx := cx147 fu) (h147 fu) follows ent148 Tryz.func148 rfl rfl
def la148 : Nat → Option Pat := fun _ => none
def pr148 : Nat → List Gh := fun _ => []
def po148 : Nat → List Gh := fun _ => []
noncomputable def ph148 (fu : Nat) : Nat → Option (CQ (nEs [(80, 0), (81, 0), (88, 1), (89, 1), (110, 2), (111, 2)] [2, 2, 5]))
  | 41 => some (.dat (Q131 fu))
  | 146 => some (.dat (Q137 fu))
  | 147 => some (.pats [Q142 fu])
  | 148 => some (.pats [Q147 fu])
  | _ => none
theorem h148 (fu : Nat) : ∀ f q, ph148 fu f = some q → SoundC Tryz.prog f q := by
  intro f q h
  unfold ph148 at h
  split at h
  · cases h; exact zs131 fu
  · cases h; exact zs137 fu
  · cases h; exact (patsC (zs142 fu) patsN)
  · cases h; exact (patsC (zs147 fu) patsN)
  · cases h
noncomputable def cx148 (fu : Nat) : Cx (nEs [(80, 0), (81, 0), (88, 1), (89, 1), (110, 2), (111, 2)] [2, 2, 5]) := ⟨Tryz.prog, ph148 fu, la148, fun _ => none, pr148, po148, 0, 36⟩
noncomputable def Q148 (fu : Nat) : FQ (nEs [(80, 0), (81, 0), (88, 1), (89, 1), (110, 2), (111, 2)] [2, 2, 5]) := ⟨[(.st (.pr .bool (.pr (.st (.pr .bool (.pr .bool (.pr .bool (.pr (.st (.pr (.sl (.st (.pr (.int .i64) (.int .i64)))) (.sl (.st (.pr (.int .i64) (.int .i64)))))) (.st (.sl (.st (.pr .bool (.sl (.st (.pr (.int .u8) (.pr (.int .u8) (.int .i64)))))))))))))) (.pr (.sl (.nm 0)) (.sl (.nm 1)))))), (.st (.pr .bool (.pr (.st (.pr .bool (.pr .bool (.pr .bool (.pr (.st (.pr (.sl (.st (.pr (.int .i64) (.int .i64)))) (.sl (.st (.pr (.int .i64) (.int .i64)))))) (.st (.sl (.st (.pr .bool (.sl (.st (.pr (.int .u8) (.pr (.int .u8) (.int .i64)))))))))))))) (.pr (.sl (.nm 0)) (.sl (.nm 1))))))], [.bool], fden (cx148 fu) fu Tryz.f97 [(.st (.pr .bool (.pr (.st (.pr .bool (.pr .bool (.pr .bool (.pr (.st (.pr (.sl (.st (.pr (.int .i64) (.int .i64)))) (.sl (.st (.pr (.int .i64) (.int .i64)))))) (.st (.sl (.st (.pr .bool (.sl (.st (.pr (.int .u8) (.pr (.int .u8) (.int .i64)))))))))))))) (.pr (.sl (.nm 0)) (.sl (.nm 1)))))), (.st (.pr .bool (.pr (.st (.pr .bool (.pr .bool (.pr .bool (.pr (.st (.pr (.sl (.st (.pr (.int .i64) (.int .i64)))) (.sl (.st (.pr (.int .i64) (.int .i64)))))) (.st (.sl (.st (.pr .bool (.sl (.st (.pr (.int .u8) (.pr (.int .u8) (.int .i64)))))))))))))) (.pr (.sl (.nm 0)) (.sl (.nm 1))))))] [.bool]⟩
theorem zs148 (fu : Nat) : SoundQ Tryz.prog 97 (Q148 fu) := fden_ok (cx := cx148 fu) (h148 fu) follows ent97 Tryz.func97 rfl rfl
def la149 : Nat → Option Pat := fun _ => none
def pr149 : Nat → List Gh := fun _ => []
def po149 : Nat → List Gh := fun _ => []
noncomputable def ph149 (fu : Nat) : Nat → Option (CQ (nEs [(80, 0), (81, 0), (88, 1), (89, 1), (110, 2), (111, 2)] [2, 2, 5]))
  | 96 => some (.dat (Q126 fu))
  | 97 => some (.dat (Q148 fu))
  | _ => none
theorem h149 (fu : Nat) : ∀ f q, ph149 fu f = some q → SoundC Tryz.prog f q := by
  intro f q h
  unfold ph149 at h
  split at h
  · cases h; exact zs126 fu
  · cases h; exact zs148 fu
  · cases h
noncomputable def cx149 (fu : Nat) : Cx (nEs [(80, 0), (81, 0), (88, 1), (89, 1), (110, 2), (111, 2)] [2, 2, 5]) := ⟨Tryz.prog, ph149 fu, la149, fun _ => none, pr149, po149, 0, 32⟩
noncomputable def Q149 (fu : Nat) : FQ (nEs [(80, 0), (81, 0), (88, 1), (89, 1), (110, 2), (111, 2)] [2, 2, 5]) := ⟨[(.st (.pr (.st (.pr .bool (.pr (.st (.pr .bool (.pr .bool (.pr .bool (.pr (.st (.pr (.sl (.st (.pr (.int .i64) (.int .i64)))) (.sl (.st (.pr (.int .i64) (.int .i64)))))) (.st (.sl (.st (.pr .bool (.sl (.st (.pr (.int .u8) (.pr (.int .u8) (.int .i64)))))))))))))) (.pr (.sl (.nm 0)) (.sl (.nm 1)))))) (.st (.pr .bool (.pr (.st (.pr .bool (.pr .bool (.pr .bool (.pr (.st (.pr (.sl (.st (.pr (.int .i64) (.int .i64)))) (.sl (.st (.pr (.int .i64) (.int .i64)))))) (.st (.sl (.st (.pr .bool (.sl (.st (.pr (.int .u8) (.pr (.int .u8) (.int .i64)))))))))))))) (.pr (.sl (.nm 0)) (.sl (.nm 1))))))))], [(.st (.pr (.st (.pr .bool (.pr (.st (.pr .bool (.pr .bool (.pr .bool (.pr (.st (.pr (.sl (.st (.pr (.int .i64) (.int .i64)))) (.sl (.st (.pr (.int .i64) (.int .i64)))))) (.st (.sl (.st (.pr .bool (.sl (.st (.pr (.int .u8) (.pr (.int .u8) (.int .i64)))))))))))))) (.pr (.sl (.nm 0)) (.sl (.nm 1)))))) (.st (.pr .bool (.pr (.st (.pr .bool (.pr .bool (.pr .bool (.pr (.st (.pr (.sl (.st (.pr (.int .i64) (.int .i64)))) (.sl (.st (.pr (.int .i64) (.int .i64)))))) (.st (.sl (.st (.pr .bool (.sl (.st (.pr (.int .u8) (.pr (.int .u8) (.int .i64)))))))))))))) (.pr (.sl (.nm 0)) (.sl (.nm 1)))))))), .bool], fden (cx149 fu) fu Tryz.f62 [(.st (.pr (.st (.pr .bool (.pr (.st (.pr .bool (.pr .bool (.pr .bool (.pr (.st (.pr (.sl (.st (.pr (.int .i64) (.int .i64)))) (.sl (.st (.pr (.int .i64) (.int .i64)))))) (.st (.sl (.st (.pr .bool (.sl (.st (.pr (.int .u8) (.pr (.int .u8) (.int .i64)))))))))))))) (.pr (.sl (.nm 0)) (.sl (.nm 1)))))) (.st (.pr .bool (.pr (.st (.pr .bool (.pr .bool (.pr .bool (.pr (.st (.pr (.sl (.st (.pr (.int .i64) (.int .i64)))) (.sl (.st (.pr (.int .i64) (.int .i64)))))) (.st (.sl (.st (.pr .bool (.sl (.st (.pr (.int .u8) (.pr (.int .u8) (.int .i64)))))))))))))) (.pr (.sl (.nm 0)) (.sl (.nm 1))))))))] [(.st (.pr (.st (.pr .bool (.pr (.st (.pr .bool (.pr .bool (.pr .bool (.pr (.st (.pr (.sl (.st (.pr (.int .i64) (.int .i64)))) (.sl (.st (.pr (.int .i64) (.int .i64)))))) (.st (.sl (.st (.pr .bool (.sl (.st (.pr (.int .u8) (.pr (.int .u8) (.int .i64)))))))))))))) (.pr (.sl (.nm 0)) (.sl (.nm 1)))))) (.st (.pr .bool (.pr (.st (.pr .bool (.pr .bool (.pr .bool (.pr (.st (.pr (.sl (.st (.pr (.int .i64) (.int .i64)))) (.sl (.st (.pr (.int .i64) (.int .i64)))))) (.st (.sl (.st (.pr .bool (.sl (.st (.pr (.int .u8) (.pr (.int .u8) (.int .i64)))))))))))))) (.pr (.sl (.nm 0)) (.sl (.nm 1)))))))), .bool]⟩
theorem zs149 (fu : Nat) : SoundQ Tryz.prog 62 (Q149 fu) := fden_ok (cx := cx149 fu) (h149 fu) follows ent62 Tryz.func62 rfl rfl
def la150 : Nat → Option Pat := fun _ => none
def pr150 : Nat → List Gh := fun _ => []
def po150 : Nat → List Gh := fun _ => []
noncomputable def ph150 (fu : Nat) : Nat → Option (CQ (nEs [(80, 0), (81, 0), (88, 1), (89, 1), (110, 2), (111, 2)] [2, 2, 5]))
  | 61 => some (.dat (Q47 fu))
  | 62 => some (.dat (Q149 fu))
  | _ => none
theorem h150 (fu : Nat) : ∀ f q, ph150 fu f = some q → SoundC Tryz.prog f q := by
  intro f q h
  unfold ph150 at h
  split at h
  · cases h; exact zs47 fu
  · cases h; exact zs149 fu
  · cases h
noncomputable def cx150 (fu : Nat) : Cx (nEs [(80, 0), (81, 0), (88, 1), (89, 1), (110, 2), (111, 2)] [2, 2, 5]) := ⟨Tryz.prog, ph150 fu, la150, fun _ => none, pr150, po150, 0, 19⟩
noncomputable def Q150 (fu : Nat) : FQ (nEs [(80, 0), (81, 0), (88, 1), (89, 1), (110, 2), (111, 2)] [2, 2, 5]) := ⟨[(.st (.pr (.st (.pr .bool (.pr (.st (.pr .bool (.pr .bool (.pr .bool (.pr (.st (.pr (.sl (.st (.pr (.int .i64) (.int .i64)))) (.sl (.st (.pr (.int .i64) (.int .i64)))))) (.st (.sl (.st (.pr .bool (.sl (.st (.pr (.int .u8) (.pr (.int .u8) (.int .i64)))))))))))))) (.pr (.sl (.nm 0)) (.sl (.nm 1)))))) (.st (.pr .bool (.pr (.st (.pr .bool (.pr .bool (.pr .bool (.pr (.st (.pr (.sl (.st (.pr (.int .i64) (.int .i64)))) (.sl (.st (.pr (.int .i64) (.int .i64)))))) (.st (.sl (.st (.pr .bool (.sl (.st (.pr (.int .u8) (.pr (.int .u8) (.int .i64)))))))))))))) (.pr (.sl (.nm 0)) (.sl (.nm 1))))))))], [(.st (.pr (.st (.pr .bool (.pr (.st (.pr .bool (.pr .bool (.pr .bool (.pr (.st (.pr (.sl (.st (.pr (.int .i64) (.int .i64)))) (.sl (.st (.pr (.int .i64) (.int .i64)))))) (.st (.sl (.st (.pr .bool (.sl (.st (.pr (.int .u8) (.pr (.int .u8) (.int .i64)))))))))))))) (.pr (.sl (.nm 0)) (.sl (.nm 1)))))) (.st (.pr .bool (.pr (.st (.pr .bool (.pr .bool (.pr .bool (.pr (.st (.pr (.sl (.st (.pr (.int .i64) (.int .i64)))) (.sl (.st (.pr (.int .i64) (.int .i64)))))) (.st (.sl (.st (.pr .bool (.sl (.st (.pr (.int .u8) (.pr (.int .u8) (.int .i64)))))))))))))) (.pr (.sl (.nm 0)) (.sl (.nm 1)))))))), (.int .i64)], fden (cx150 fu) fu Tryz.f40 [(.st (.pr (.st (.pr .bool (.pr (.st (.pr .bool (.pr .bool (.pr .bool (.pr (.st (.pr (.sl (.st (.pr (.int .i64) (.int .i64)))) (.sl (.st (.pr (.int .i64) (.int .i64)))))) (.st (.sl (.st (.pr .bool (.sl (.st (.pr (.int .u8) (.pr (.int .u8) (.int .i64)))))))))))))) (.pr (.sl (.nm 0)) (.sl (.nm 1)))))) (.st (.pr .bool (.pr (.st (.pr .bool (.pr .bool (.pr .bool (.pr (.st (.pr (.sl (.st (.pr (.int .i64) (.int .i64)))) (.sl (.st (.pr (.int .i64) (.int .i64)))))) (.st (.sl (.st (.pr .bool (.sl (.st (.pr (.int .u8) (.pr (.int .u8) (.int .i64)))))))))))))) (.pr (.sl (.nm 0)) (.sl (.nm 1))))))))] [(.st (.pr (.st (.pr .bool (.pr (.st (.pr .bool (.pr .bool (.pr .bool (.pr (.st (.pr (.sl (.st (.pr (.int .i64) (.int .i64)))) (.sl (.st (.pr (.int .i64) (.int .i64)))))) (.st (.sl (.st (.pr .bool (.sl (.st (.pr (.int .u8) (.pr (.int .u8) (.int .i64)))))))))))))) (.pr (.sl (.nm 0)) (.sl (.nm 1)))))) (.st (.pr .bool (.pr (.st (.pr .bool (.pr .bool (.pr .bool (.pr (.st (.pr (.sl (.st (.pr (.int .i64) (.int .i64)))) (.sl (.st (.pr (.int .i64) (.int .i64)))))) (.st (.sl (.st (.pr .bool (.sl (.st (.pr (.int .u8) (.pr (.int .u8) (.int .i64)))))))))))))) (.pr (.sl (.nm 0)) (.sl (.nm 1)))))))), (.int .i64)]⟩
theorem zs150 (fu : Nat) : SoundQ Tryz.prog 40 (Q150 fu) := fden_ok (cx := cx150 fu) (h150 fu) follows ent40 Tryz.func40 rfl rfl
def la151 : Nat → Option Pat := fun _ => none
def pr151 : Nat → List Gh := fun _ => []
def po151 : Nat → List Gh := fun _ => []
noncomputable def ph151 (fu : Nat) : Nat → Option (CQ (nEs [(80, 0), (81, 0), (88, 1), (89, 1), (110, 2), (111, 2)] [2, 2, 5]))
  | 40 => some (.dat (Q150 fu))
  | 41 => some (.dat (Q131 fu))
  | _ => none
theorem h151 (fu : Nat) : ∀ f q, ph151 fu f = some q → SoundC Tryz.prog f q := by
  intro f q h
  unfold ph151 at h
  split at h
  · cases h; exact zs150 fu
  · cases h; exact zs131 fu
  · cases h
noncomputable def cx151 (fu : Nat) : Cx (nEs [(80, 0), (81, 0), (88, 1), (89, 1), (110, 2), (111, 2)] [2, 2, 5]) := ⟨Tryz.prog, ph151 fu, la151, fun _ => none, pr151, po151, 0, 17⟩
noncomputable def Q151 (fu : Nat) : FQ (nEs [(80, 0), (81, 0), (88, 1), (89, 1), (110, 2), (111, 2)] [2, 2, 5]) := ⟨[(.st (.pr (.st (.pr .bool (.pr (.st (.pr .bool (.pr .bool (.pr .bool (.pr (.st (.pr (.sl (.st (.pr (.int .i64) (.int .i64)))) (.sl (.st (.pr (.int .i64) (.int .i64)))))) (.st (.sl (.st (.pr .bool (.sl (.st (.pr (.int .u8) (.pr (.int .u8) (.int .i64)))))))))))))) (.pr (.sl (.nm 0)) (.sl (.nm 1)))))) (.st (.pr .bool (.pr (.st (.pr .bool (.pr .bool (.pr .bool (.pr (.st (.pr (.sl (.st (.pr (.int .i64) (.int .i64)))) (.sl (.st (.pr (.int .i64) (.int .i64)))))) (.st (.sl (.st (.pr .bool (.sl (.st (.pr (.int .u8) (.pr (.int .u8) (.int .i64)))))))))))))) (.pr (.sl (.nm 0)) (.sl (.nm 1))))))))], [.bool], fden (cx151 fu) fu Tryz.f21 [(.st (.pr (.st (.pr .bool (.pr (.st (.pr .bool (.pr .bool (.pr .bool (.pr (.st (.pr (.sl (.st (.pr (.int .i64) (.int .i64)))) (.sl (.st (.pr (.int .i64) (.int .i64)))))) (.st (.sl (.st (.pr .bool (.sl (.st (.pr (.int .u8) (.pr (.int .u8) (.int .i64)))))))))))))) (.pr (.sl (.nm 0)) (.sl (.nm 1)))))) (.st (.pr .bool (.pr (.st (.pr .bool (.pr .bool (.pr .bool (.pr (.st (.pr (.sl (.st (.pr (.int .i64) (.int .i64)))) (.sl (.st (.pr (.int .i64) (.int .i64)))))) (.st (.sl (.st (.pr .bool (.sl (.st (.pr (.int .u8) (.pr (.int .u8) (.int .i64)))))))))))))) (.pr (.sl (.nm 0)) (.sl (.nm 1))))))))] [.bool]⟩
theorem zs151 (fu : Nat) : SoundQ Tryz.prog 21 (Q151 fu) := fden_ok (cx := cx151 fu) (h151 fu) follows ent21 Tryz.func21 rfl rfl
def la152 : Nat → Option Pat := fun _ => none
def pr152 : Nat → List Gh := fun _ => []
def po152 : Nat → List Gh := fun _ => []
def ph152 (_ : Nat) : Nat → Option (CQ (nEs [(80, 0), (81, 0), (88, 1), (89, 1), (110, 2), (111, 2)] [2, 2, 5])) := fun _ => none
theorem h152 (fu : Nat) : ∀ f q, ph152 fu f = some q → SoundC Tryz.prog f q := fun _ _ h => by cases h
noncomputable def cx152 (fu : Nat) : Cx (nEs [(80, 0), (81, 0), (88, 1), (89, 1), (110, 2), (111, 2)] [2, 2, 5]) := ⟨Tryz.prog, ph152 fu, la152, fun _ => none, pr152, po152, 0, 9⟩
noncomputable def Q152 (fu : Nat) : FQ (nEs [(80, 0), (81, 0), (88, 1), (89, 1), (110, 2), (111, 2)] [2, 2, 5]) := ⟨[.bool, .bool], [.bool], fden (cx152 fu) fu Tryz.f155 [.bool, .bool] [.bool]⟩
theorem zs152 (fu : Nat) : SoundQ Tryz.prog 155 (Q152 fu) := fden_ok (cx := cx152 fu) (h152 fu) follows ent155 Tryz.func155 rfl rfl
def la154 : Nat → Option Pat := fun _ => none
def pr154 : Nat → List Gh := fun _ => []
def po154 : Nat → List Gh := fun _ => []
def ph154 (_ : Nat) : Nat → Option (CQ (nEs [(80, 0), (81, 0), (88, 1), (89, 1), (110, 2), (111, 2)] [2, 2, 5])) := fun _ => none
theorem h154 (fu : Nat) : ∀ f q, ph154 fu f = some q → SoundC Tryz.prog f q := fun _ _ h => by cases h
noncomputable def cx154 (fu : Nat) : Cx (nEs [(80, 0), (81, 0), (88, 1), (89, 1), (110, 2), (111, 2)] [2, 2, 5]) := ⟨Tryz.prog, ph154 fu, la154, fun _ => none, pr154, po154, 0, 19⟩
noncomputable def Q154 (fu : Nat) : FQ (nEs [(80, 0), (81, 0), (88, 1), (89, 1), (110, 2), (111, 2)] [2, 2, 5]) := ⟨[(.st (.sl (.st (.pr .bool (.sl (.st (.pr (.int .u8) (.pr (.int .u8) (.int .i64))))))))), (.st (.sl (.st (.pr .bool (.sl (.st (.pr (.int .u8) (.pr (.int .u8) (.int .i64)))))))))], [(.st (.sl (.st (.pr .bool (.sl (.st (.pr (.int .u8) (.pr (.int .u8) (.int .i64)))))))))], fden (cx154 fu) fu Tryz.f157 [(.st (.sl (.st (.pr .bool (.sl (.st (.pr (.int .u8) (.pr (.int .u8) (.int .i64))))))))), (.st (.sl (.st (.pr .bool (.sl (.st (.pr (.int .u8) (.pr (.int .u8) (.int .i64)))))))))] [(.st (.sl (.st (.pr .bool (.sl (.st (.pr (.int .u8) (.pr (.int .u8) (.int .i64)))))))))]⟩
theorem zs154 (fu : Nat) : SoundQ Tryz.prog 157 (Q154 fu) := fden_ok (cx := cx154 fu) (h154 fu) follows ent157 Tryz.func157 rfl rfl
def la155 : Nat → Option Pat := fun _ => none
def pr155 : Nat → List Gh := fun _ => []
def po155 : Nat → List Gh := fun _ => []
noncomputable def ph155 (fu : Nat) : Nat → Option (CQ (nEs [(80, 0), (81, 0), (88, 1), (89, 1), (110, 2), (111, 2)] [2, 2, 5]))
  | 111 => some (.dat (Q48 fu))
  | 155 => some (.dat (Q152 fu))
  | 156 => some (.dat (Q100 fu))
  | 157 => some (.dat (Q154 fu))
  | _ => none
theorem h155 (fu : Nat) : ∀ f q, ph155 fu f = some q → SoundC Tryz.prog f q := by
  intro f q h
  unfold ph155 at h
  split at h
  · cases h; exact zs48 fu
  · cases h; exact zs152 fu
  · cases h; exact zs100 fu
  · cases h; exact zs154 fu
  · cases h
noncomputable def cx155 (fu : Nat) : Cx (nEs [(80, 0), (81, 0), (88, 1), (89, 1), (110, 2), (111, 2)] [2, 2, 5]) := ⟨Tryz.prog, ph155 fu, la155, fun _ => none, pr155, po155, 0, 46⟩
def pi155 : Pat := ⟨[.dat (.st (.pr .bool (.pr .bool (.pr .bool (.pr (.st (.pr (.sl (.st (.pr (.int .i64) (.int .i64)))) (.sl (.st (.pr (.int .i64) (.int .i64)))))) (.st (.sl (.st (.pr .bool (.sl (.st (.pr (.int .u8) (.pr (.int .u8) (.int .i64)))))))))))))), .dat (.st (.pr .bool (.pr .bool (.pr .bool (.pr (.st (.pr (.sl (.st (.pr (.int .i64) (.int .i64)))) (.sl (.st (.pr (.int .i64) (.int .i64)))))) (.st (.sl (.st (.pr .bool (.sl (.st (.pr (.int .u8) (.pr (.int .u8) (.int .i64))))))))))))))], [(0, .v 0 (.st (.pr .bool (.pr .bool (.pr .bool (.pr (.st (.pr (.sl (.st (.pr (.int .i64) (.int .i64)))) (.sl (.st (.pr (.int .i64) (.int .i64)))))) (.st (.sl (.st (.pr .bool (.sl (.st (.pr (.int .u8) (.pr (.int .u8) (.int .i64))))))))))))))), (1, .v 1 (.st (.pr .bool (.pr .bool (.pr .bool (.pr (.st (.pr (.sl (.st (.pr (.int .i64) (.int .i64)))) (.sl (.st (.pr (.int .i64) (.int .i64)))))) (.st (.sl (.st (.pr .bool (.sl (.st (.pr (.int .u8) (.pr (.int .u8) (.int .i64))))))))))))))), (2, .clo 155 [] []), (3, .clo 156 [] []), (4, .clo 157 [] [])], [], 0⟩
def qo155 : Pat := ⟨[.dat (.st (.pr .bool (.pr .bool (.pr .bool (.pr (.st (.pr (.sl (.st (.pr (.int .i64) (.int .i64)))) (.sl (.st (.pr (.int .i64) (.int .i64)))))) (.st (.sl (.st (.pr .bool (.sl (.st (.pr (.int .u8) (.pr (.int .u8) (.int .i64))))))))))))))], [(0, .v 0 (.st (.pr .bool (.pr .bool (.pr .bool (.pr (.st (.pr (.sl (.st (.pr (.int .i64) (.int .i64)))) (.sl (.st (.pr (.int .i64) (.int .i64)))))) (.st (.sl (.st (.pr .bool (.sl (.st (.pr (.int .u8) (.pr (.int .u8) (.int .i64)))))))))))))))], [], 0⟩
noncomputable def Q155 (fu : Nat) : PQ (nEs [(80, 0), (81, 0), (88, 1), (89, 1), (110, 2), (111, 2)] [2, 2, 5]) := ⟨pi155, qo155, 1, [], fdenP (cx155 fu) fu Tryz.f154 pi155 qo155 1⟩
theorem zs155 (fu : Nat) : SoundP Tryz.prog 154 (Q155 fu) := fdenP_ok (cx := cx155 fu) (h155 fu) follows ent154 Tryz.func154 rfl rfl
def la156 : Nat → Option Pat := fun _ => none
def pr156 : Nat → List Gh := fun _ => []
def po156 : Nat → List Gh := fun _ => []
noncomputable def ph156 (fu : Nat) : Nat → Option (CQ (nEs [(80, 0), (81, 0), (88, 1), (89, 1), (110, 2), (111, 2)] [2, 2, 5]))
  | 154 => some (.pats [Q155 fu])
  | _ => none
theorem h156 (fu : Nat) : ∀ f q, ph156 fu f = some q → SoundC Tryz.prog f q := by
  intro f q h
  unfold ph156 at h
  split at h
  · cases h; exact (patsC (zs155 fu) patsN)
  · cases h
noncomputable def cx156 (fu : Nat) : Cx (nEs [(80, 0), (81, 0), (88, 1), (89, 1), (110, 2), (111, 2)] [2, 2, 5]) := ⟨Tryz.prog, ph156 fu, la156, fun _ => none, pr156, po156, 0, 8⟩
noncomputable def Q156 (fu : Nat) : FQ (nEs [(80, 0), (81, 0), (88, 1), (89, 1), (110, 2), (111, 2)] [2, 2, 5]) := ⟨[(.st (.pr .bool (.pr .bool (.pr .bool (.pr (.st (.pr (.sl (.st (.pr (.int .i64) (.int .i64)))) (.sl (.st (.pr (.int .i64) (.int .i64)))))) (.st (.sl (.st (.pr .bool (.sl (.st (.pr (.int .u8) (.pr (.int .u8) (.int .i64)))))))))))))), (.st (.pr .bool (.pr .bool (.pr .bool (.pr (.st (.pr (.sl (.st (.pr (.int .i64) (.int .i64)))) (.sl (.st (.pr (.int .i64) (.int .i64)))))) (.st (.sl (.st (.pr .bool (.sl (.st (.pr (.int .u8) (.pr (.int .u8) (.int .i64))))))))))))))], [(.st (.pr .bool (.pr .bool (.pr .bool (.pr (.st (.pr (.sl (.st (.pr (.int .i64) (.int .i64)))) (.sl (.st (.pr (.int .i64) (.int .i64)))))) (.st (.sl (.st (.pr .bool (.sl (.st (.pr (.int .u8) (.pr (.int .u8) (.int .i64))))))))))))))], fden (cx156 fu) fu Tryz.f104 [(.st (.pr .bool (.pr .bool (.pr .bool (.pr (.st (.pr (.sl (.st (.pr (.int .i64) (.int .i64)))) (.sl (.st (.pr (.int .i64) (.int .i64)))))) (.st (.sl (.st (.pr .bool (.sl (.st (.pr (.int .u8) (.pr (.int .u8) (.int .i64)))))))))))))), (.st (.pr .bool (.pr .bool (.pr .bool (.pr (.st (.pr (.sl (.st (.pr (.int .i64) (.int .i64)))) (.sl (.st (.pr (.int .i64) (.int .i64)))))) (.st (.sl (.st (.pr .bool (.sl (.st (.pr (.int .u8) (.pr (.int .u8) (.int .i64))))))))))))))] [(.st (.pr .bool (.pr .bool (.pr .bool (.pr (.st (.pr (.sl (.st (.pr (.int .i64) (.int .i64)))) (.sl (.st (.pr (.int .i64) (.int .i64)))))) (.st (.sl (.st (.pr .bool (.sl (.st (.pr (.int .u8) (.pr (.int .u8) (.int .i64))))))))))))))]⟩
theorem zs156 (fu : Nat) : SoundQ Tryz.prog 104 (Q156 fu) := fden_ok (cx := cx156 fu) (h156 fu) follows ent104 Tryz.func104 rfl rfl
def la157 : Nat → Option Pat := fun _ => none
def pr157 : Nat → List Gh := fun _ => []
def po157 : Nat → List Gh := fun _ => []
def ph157 (_ : Nat) : Nat → Option (CQ (nEs [(80, 0), (81, 0), (88, 1), (89, 1), (110, 2), (111, 2)] [2, 2, 5])) := fun _ => none
theorem h157 (fu : Nat) : ∀ f q, ph157 fu f = some q → SoundC Tryz.prog f q := fun _ _ h => by cases h
noncomputable def cx157 (fu : Nat) : Cx (nEs [(80, 0), (81, 0), (88, 1), (89, 1), (110, 2), (111, 2)] [2, 2, 5]) := ⟨Tryz.prog, ph157 fu, la157, fun _ => none, pr157, po157, 0, 6⟩
def pi157 : Pat := ⟨[.dat (.sl (.nm 0)), .dat (.sl (.nm 0))], [(0, .v 0 (.sl (.nm 0))), (1, .v 1 (.sl (.nm 0)))], [], 0⟩
def qo157 : Pat := ⟨[.dat (.sl (.nm 0)), .dat (.sl (.nm 0))], [(0, .clo 158 [] [0, 1])], [(0, .blk 31 [(1, .v 0 (.sl (.nm 0)))]), (1, .blk 31 [(1, .v 1 (.sl (.nm 0)))])], 2⟩
noncomputable def Q157 (fu : Nat) : PQ (nEs [(80, 0), (81, 0), (88, 1), (89, 1), (110, 2), (111, 2)] [2, 2, 5]) := ⟨pi157, qo157, 1, [], fdenP (cx157 fu) fu Tryz.f105 pi157 qo157 1⟩
theorem zs157 (fu : Nat) : SoundP Tryz.prog 105 (Q157 fu) := fdenP_ok (cx := cx157 fu) (h157 fu) follows ent105 Tryz.func105 rfl rfl
def la158 : Nat → Option Pat
  | 1 => some ⟨[.nat], [(0, .keep), (2, .keep), (8, .keep), (9, .keep), (10, .cnt 0 100)], [(1, .c 0), (0, .c 0)], 3⟩
  | 4 => some ⟨[.nat], [(0, .keep), (2, .keep), (5, .keep), (8, .keep), (9, .keep), (10, .keep), (14, .keep), (15, .keep), (16, .cnt 0 400)], [(3, .c 0), (1, .c 0), (0, .c 0)], 4⟩
  | _ => none
def pr158 : Nat → List Gh := fun _ => []
def po158 : Nat → List Gh := fun _ => []
def ph158 (_ : Nat) : Nat → Option (CQ (nEs [(80, 0), (81, 0), (88, 1), (89, 1), (110, 2), (111, 2)] [2, 2, 5])) := fun _ => none
theorem h158 (fu : Nat) : ∀ f q, ph158 fu f = some q → SoundC Tryz.prog f q := fun _ _ h => by cases h
noncomputable def cx158 (fu : Nat) : Cx (nEs [(80, 0), (81, 0), (88, 1), (89, 1), (110, 2), (111, 2)] [2, 2, 5]) := ⟨Tryz.prog, ph158 fu, la158, fun _ => none, pr158, po158, 2, 27⟩
def pi158 : Pat := ⟨[.dat (.sl (.nm 0)), .dat (.sl (.nm 0))], [(0, .keep), (1, .loc 0 0), (2, .loc 1 0)], [(0, .blk 31 [(1, .v 0 (.sl (.nm 0)))]), (1, .blk 31 [(1, .v 1 (.sl (.nm 0)))])], 2⟩
noncomputable def Q158 (fu : Nat) : IQ (nEs [(80, 0), (81, 0), (88, 1), (89, 1), (110, 2), (111, 2)] [2, 2, 5]) := ⟨pi158, 0, [(.nm 0), (.nm 0)], fdenI (cx158 fu) fu Tryz.f158 pi158 0 [(.nm 0), (.nm 0)]⟩
theorem zs158 (fu : Nat) : SoundI Tryz.prog 158 (Q158 fu) := fdenI_ok (cx := cx158 fu) (h158 fu) follows ent158 Tryz.func158 rfl rfl
def la159 : Nat → Option Pat := fun _ => none
def pr159 : Nat → List Gh := fun _ => []
def po159 : Nat → List Gh := fun _ => []
def ph159 (_ : Nat) : Nat → Option (CQ (nEs [(80, 0), (81, 0), (88, 1), (89, 1), (110, 2), (111, 2)] [2, 2, 5])) := fun _ => none
theorem h159 (fu : Nat) : ∀ f q, ph159 fu f = some q → SoundC Tryz.prog f q := fun _ _ h => by cases h
noncomputable def cx159 (fu : Nat) : Cx (nEs [(80, 0), (81, 0), (88, 1), (89, 1), (110, 2), (111, 2)] [2, 2, 5]) := ⟨Tryz.prog, ph159 fu, la159, fun _ => none, pr159, po159, 0, 6⟩
def pi159 : Pat := ⟨[.dat (.sl (.nm 1)), .dat (.sl (.nm 1))], [(0, .v 0 (.sl (.nm 1))), (1, .v 1 (.sl (.nm 1)))], [], 0⟩
def qo159 : Pat := ⟨[.dat (.sl (.nm 1)), .dat (.sl (.nm 1))], [(0, .clo 161 [] [0, 1])], [(0, .blk 32 [(1, .v 0 (.sl (.nm 1)))]), (1, .blk 32 [(1, .v 1 (.sl (.nm 1)))])], 2⟩
noncomputable def Q159 (fu : Nat) : PQ (nEs [(80, 0), (81, 0), (88, 1), (89, 1), (110, 2), (111, 2)] [2, 2, 5]) := ⟨pi159, qo159, 1, [], fdenP (cx159 fu) fu Tryz.f107 pi159 qo159 1⟩
theorem zs159 (fu : Nat) : SoundP Tryz.prog 107 (Q159 fu) := fdenP_ok (cx := cx159 fu) (h159 fu) follows ent107 Tryz.func107 rfl rfl
def la160 : Nat → Option Pat
  | 1 => some ⟨[.nat], [(0, .keep), (2, .keep), (8, .keep), (9, .keep), (10, .cnt 0 100)], [(1, .c 0), (0, .c 0)], 3⟩
  | 4 => some ⟨[.nat], [(0, .keep), (2, .keep), (5, .keep), (8, .keep), (9, .keep), (10, .keep), (14, .keep), (15, .keep), (16, .cnt 0 400)], [(3, .c 0), (1, .c 0), (0, .c 0)], 4⟩
  | _ => none
def pr160 : Nat → List Gh := fun _ => []
def po160 : Nat → List Gh := fun _ => []
def ph160 (_ : Nat) : Nat → Option (CQ (nEs [(80, 0), (81, 0), (88, 1), (89, 1), (110, 2), (111, 2)] [2, 2, 5])) := fun _ => none
theorem h160 (fu : Nat) : ∀ f q, ph160 fu f = some q → SoundC Tryz.prog f q := fun _ _ h => by cases h
noncomputable def cx160 (fu : Nat) : Cx (nEs [(80, 0), (81, 0), (88, 1), (89, 1), (110, 2), (111, 2)] [2, 2, 5]) := ⟨Tryz.prog, ph160 fu, la160, fun _ => none, pr160, po160, 2, 27⟩
def pi160 : Pat := ⟨[.dat (.sl (.nm 1)), .dat (.sl (.nm 1))], [(0, .keep), (1, .loc 0 0), (2, .loc 1 0)], [(0, .blk 32 [(1, .v 0 (.sl (.nm 1)))]), (1, .blk 32 [(1, .v 1 (.sl (.nm 1)))])], 2⟩
noncomputable def Q160 (fu : Nat) : IQ (nEs [(80, 0), (81, 0), (88, 1), (89, 1), (110, 2), (111, 2)] [2, 2, 5]) := ⟨pi160, 0, [(.nm 1), (.nm 1)], fdenI (cx160 fu) fu Tryz.f161 pi160 0 [(.nm 1), (.nm 1)]⟩
theorem zs160 (fu : Nat) : SoundI Tryz.prog 161 (Q160 fu) := fdenI_ok (cx := cx160 fu) (h160 fu) follows ent161 Tryz.func161 rfl rfl
def la161 : Nat → Option Pat := fun _ => none
def pr161 : Nat → List Gh := fun _ => []
def po161 : Nat → List Gh
  | 1 => [.fzb 2 7]
  | _ => []
def ph161 (_ : Nat) : Nat → Option (CQ (nEs [(80, 0), (81, 0), (88, 1), (89, 1), (110, 2), (111, 2)] [2, 2, 5])) := fun _ => none
theorem h161 (fu : Nat) : ∀ f q, ph161 fu f = some q → SoundC Tryz.prog f q := fun _ _ h => by cases h
noncomputable def cx161 (fu : Nat) : Cx (nEs [(80, 0), (81, 0), (88, 1), (89, 1), (110, 2), (111, 2)] [2, 2, 5]) := ⟨Tryz.prog, ph161 fu, la161, fun _ => none, pr161, po161, 0, 6⟩
noncomputable def Q161 (fu : Nat) : FQ (nEs [(80, 0), (81, 0), (88, 1), (89, 1), (110, 2), (111, 2)] [2, 2, 5]) := ⟨[(.nm 0)], [(.st (.pr .bool (.pr (.st (.pr .bool (.pr .bool (.pr .bool (.pr (.st (.pr (.sl (.st (.pr (.int .i64) (.int .i64)))) (.sl (.st (.pr (.int .i64) (.int .i64)))))) (.st (.sl (.st (.pr .bool (.sl (.st (.pr (.int .u8) (.pr (.int .u8) (.int .i64)))))))))))))) (.pr (.sl (.nm 0)) (.sl (.nm 1))))))], fden (cx161 fu) fu Tryz.f141 [(.nm 0)] [(.st (.pr .bool (.pr (.st (.pr .bool (.pr .bool (.pr .bool (.pr (.st (.pr (.sl (.st (.pr (.int .i64) (.int .i64)))) (.sl (.st (.pr (.int .i64) (.int .i64)))))) (.st (.sl (.st (.pr .bool (.sl (.st (.pr (.int .u8) (.pr (.int .u8) (.int .i64)))))))))))))) (.pr (.sl (.nm 0)) (.sl (.nm 1))))))]⟩
theorem zs161 (fu : Nat) : SoundQ Tryz.prog 141 (Q161 fu) := fden_ok (cx := cx161 fu) (h161 fu) follows ent141 Tryz.func141 rfl rfl
def la162 : Nat → Option Pat := fun _ => none
def pr162 : Nat → List Gh := fun _ => []
def po162 : Nat → List Gh := fun _ => []
noncomputable def ph162 (fu : Nat) : Nat → Option (CQ (nEs [(80, 0), (81, 0), (88, 1), (89, 1), (110, 2), (111, 2)] [2, 2, 5]))
  | 21 => some (.dat (Q151 fu))
  | _ => none
theorem h162 (fu : Nat) : ∀ f q, ph162 fu f = some q → SoundC Tryz.prog f q := by
  intro f q h
  unfold ph162 at h
  split at h
  · cases h; exact zs151 fu
  · cases h
noncomputable def cx162 (fu : Nat) : Cx (nEs [(80, 0), (81, 0), (88, 1), (89, 1), (110, 2), (111, 2)] [2, 2, 5]) := ⟨Tryz.prog, ph162 fu, la162, fun _ => none, pr162, po162, 0, 6⟩
noncomputable def Q162 (fu : Nat) : FQ (nEs [(80, 0), (81, 0), (88, 1), (89, 1), (110, 2), (111, 2)] [2, 2, 5]) := ⟨[(.st (.pr .bool (.pr (.st (.pr .bool (.pr .bool (.pr .bool (.pr (.st (.pr (.sl (.st (.pr (.int .i64) (.int .i64)))) (.sl (.st (.pr (.int .i64) (.int .i64)))))) (.st (.sl (.st (.pr .bool (.sl (.st (.pr (.int .u8) (.pr (.int .u8) (.int .i64)))))))))))))) (.pr (.sl (.nm 0)) (.sl (.nm 1))))))], [.bool], fden (cx162 fu) fu Tryz.f171 [(.st (.pr .bool (.pr (.st (.pr .bool (.pr .bool (.pr .bool (.pr (.st (.pr (.sl (.st (.pr (.int .i64) (.int .i64)))) (.sl (.st (.pr (.int .i64) (.int .i64)))))) (.st (.sl (.st (.pr .bool (.sl (.st (.pr (.int .u8) (.pr (.int .u8) (.int .i64)))))))))))))) (.pr (.sl (.nm 0)) (.sl (.nm 1))))))] [.bool]⟩
theorem zs162 (fu : Nat) : SoundQ Tryz.prog 171 (Q162 fu) := fden_ok (cx := cx162 fu) (h162 fu) follows ent171 Tryz.func171 rfl rfl
def la163 : Nat → Option Pat
  | 3 => some ⟨[.nat], [(3, .keep), (9, .keep), (10, .keep), (11, .cnt 0 300)], [], 0⟩
  | _ => none
def pr163 : Nat → List Gh := fun _ => []
def po163 : Nat → List Gh := fun _ => []
noncomputable def ph163 (fu : Nat) : Nat → Option (CQ (nEs [(80, 0), (81, 0), (88, 1), (89, 1), (110, 2), (111, 2)] [2, 2, 5]))
  | 139 => some (.pats [Q74 fu])
  | 141 => some (.dat (Q161 fu))
  | 171 => some (.dat (Q162 fu))
  | _ => none
theorem h163 (fu : Nat) : ∀ f q, ph163 fu f = some q → SoundC Tryz.prog f q := by
  intro f q h
  unfold ph163 at h
  split at h
  · cases h; exact (patsC (zs74 fu) patsN)
  · cases h; exact zs161 fu
  · cases h; exact zs162 fu
  · cases h
noncomputable def cx163 (fu : Nat) : Cx (nEs [(80, 0), (81, 0), (88, 1), (89, 1), (110, 2), (111, 2)] [2, 2, 5]) := ⟨Tryz.prog, ph163 fu, la163, fun _ => none, pr163, po163, 0, 31⟩
noncomputable def Q163 (fu : Nat) : FQ (nEs [(80, 0), (81, 0), (88, 1), (89, 1), (110, 2), (111, 2)] [2, 2, 5]) := ⟨[(.sl (.nm 0))], [(.sl (.nm 0))], fden (cx163 fu) fu Tryz.f109 [(.sl (.nm 0))] [(.sl (.nm 0))]⟩
theorem zs163 (fu : Nat) : SoundQ Tryz.prog 109 (Q163 fu) := fden_ok (cx := cx163 fu) (h163 fu) follows ent109 Tryz.func109 rfl rfl
def la164 : Nat → Option Pat := fun _ => none
def pr164 : Nat → List Gh := fun _ => []
def po164 : Nat → List Gh
  | 1 => [.fzb 2 8]
  | _ => []
def ph164 (_ : Nat) : Nat → Option (CQ (nEs [(80, 0), (81, 0), (88, 1), (89, 1), (110, 2), (111, 2)] [2, 2, 5])) := fun _ => none
theorem h164 (fu : Nat) : ∀ f q, ph164 fu f = some q → SoundC Tryz.prog f q := fun _ _ h => by cases h
noncomputable def cx164 (fu : Nat) : Cx (nEs [(80, 0), (81, 0), (88, 1), (89, 1), (110, 2), (111, 2)] [2, 2, 5]) := ⟨Tryz.prog, ph164 fu, la164, fun _ => none, pr164, po164, 0, 6⟩
noncomputable def Q164 (fu : Nat) : FQ (nEs [(80, 0), (81, 0), (88, 1), (89, 1), (110, 2), (111, 2)] [2, 2, 5]) := ⟨[(.nm 1)], [(.st (.pr .bool (.pr (.st (.pr .bool (.pr .bool (.pr .bool (.pr (.st (.pr (.sl (.st (.pr (.int .i64) (.int .i64)))) (.sl (.st (.pr (.int .i64) (.int .i64)))))) (.st (.sl (.st (.pr .bool (.sl (.st (.pr (.int .u8) (.pr (.int .u8) (.int .i64)))))))))))))) (.pr (.sl (.nm 0)) (.sl (.nm 1))))))], fden (cx164 fu) fu Tryz.f144 [(.nm 1)] [(.st (.pr .bool (.pr (.st (.pr .bool (.pr .bool (.pr .bool (.pr (.st (.pr (.sl (.st (.pr (.int .i64) (.int .i64)))) (.sl (.st (.pr (.int .i64) (.int .i64)))))) (.st (.sl (.st (.pr .bool (.sl (.st (.pr (.int .u8) (.pr (.int .u8) (.int .i64)))))))))))))) (.pr (.sl (.nm 0)) (.sl (.nm 1))))))]⟩
theorem zs164 (fu : Nat) : SoundQ Tryz.prog 144 (Q164 fu) := fden_ok (cx := cx164 fu) (h164 fu) follows ent144 Tryz.func144 rfl rfl
def la165 : Nat → Option Pat
  | 3 => some ⟨[.nat], [(3, .keep), (9, .keep), (10, .keep), (11, .cnt 0 300)], [], 0⟩
  | _ => none
def pr165 : Nat → List Gh := fun _ => []
def po165 : Nat → List Gh := fun _ => []
noncomputable def ph165 (fu : Nat) : Nat → Option (CQ (nEs [(80, 0), (81, 0), (88, 1), (89, 1), (110, 2), (111, 2)] [2, 2, 5]))
  | 142 => some (.pats [Q83 fu])
  | 144 => some (.dat (Q164 fu))
  | 171 => some (.dat (Q162 fu))
  | _ => none
theorem h165 (fu : Nat) : ∀ f q, ph165 fu f = some q → SoundC Tryz.prog f q := by
  intro f q h
  unfold ph165 at h
  split at h
  · cases h; exact (patsC (zs83 fu) patsN)
  · cases h; exact zs164 fu
  · cases h; exact zs162 fu
  · cases h
noncomputable def cx165 (fu : Nat) : Cx (nEs [(80, 0), (81, 0), (88, 1), (89, 1), (110, 2), (111, 2)] [2, 2, 5]) := ⟨Tryz.prog, ph165 fu, la165, fun _ => none, pr165, po165, 0, 31⟩
noncomputable def Q165 (fu : Nat) : FQ (nEs [(80, 0), (81, 0), (88, 1), (89, 1), (110, 2), (111, 2)] [2, 2, 5]) := ⟨[(.sl (.nm 1))], [(.sl (.nm 1))], fden (cx165 fu) fu Tryz.f110 [(.sl (.nm 1))] [(.sl (.nm 1))]⟩
theorem zs165 (fu : Nat) : SoundQ Tryz.prog 110 (Q165 fu) := fden_ok (cx := cx165 fu) (h165 fu) follows ent110 Tryz.func110 rfl rfl
def la166 : Nat → Option Pat
  | 8 => some ⟨[], [(2, .keep), (3, .keep), (4, .keep), (5, .keep), (6, .keep), (41, .keep)], [(0, .c 0), (1, .c 0), (2, .c 0), (3, .c 0), (4, .c 0)], 7⟩
  | 15 => some ⟨[], [(4, .keep), (5, .keep), (6, .keep), (11, .keep), (59, .keep)], [(0, .c 0), (1, .c 0), (2, .c 0), (3, .c 0), (4, .c 0), (5, .c 0), (6, .c 0), (7, .c 0)], 10⟩
  | _ => none
def pr166 : Nat → List Gh := fun _ => []
def po166 : Nat → List Gh := fun _ => []
noncomputable def ph166 (fu : Nat) : Nat → Option (CQ (nEs [(80, 0), (81, 0), (88, 1), (89, 1), (110, 2), (111, 2)] [2, 2, 5]))
  | 41 => some (.dat (Q131 fu))
  | 104 => some (.dat (Q156 fu))
  | 105 => some (.pats [Q157 fu])
  | 107 => some (.pats [Q159 fu])
  | 109 => some (.dat (Q163 fu))
  | 110 => some (.dat (Q165 fu))
  | 158 => some (.its [Q158 fu])
  | 161 => some (.its [Q160 fu])
  | _ => none
theorem h166 (fu : Nat) : ∀ f q, ph166 fu f = some q → SoundC Tryz.prog f q := by
  intro f q h
  unfold ph166 at h
  split at h
  · cases h; exact zs131 fu
  · cases h; exact zs156 fu
  · cases h; exact (patsC (zs157 fu) patsN)
  · cases h; exact (patsC (zs159 fu) patsN)
  · cases h; exact zs163 fu
  · cases h; exact zs165 fu
  · cases h; exact (itsC (zs158 fu) itsN)
  · cases h; exact (itsC (zs160 fu) itsN)
  · cases h
noncomputable def cx166 (fu : Nat) : Cx (nEs [(80, 0), (81, 0), (88, 1), (89, 1), (110, 2), (111, 2)] [2, 2, 5]) := ⟨Tryz.prog, ph166 fu, la166, fun _ => none, pr166, po166, 0, 80⟩
noncomputable def Q166 (fu : Nat) : FQ (nEs [(80, 0), (81, 0), (88, 1), (89, 1), (110, 2), (111, 2)] [2, 2, 5]) := ⟨[(.st (.pr .bool (.pr (.st (.pr .bool (.pr .bool (.pr .bool (.pr (.st (.pr (.sl (.st (.pr (.int .i64) (.int .i64)))) (.sl (.st (.pr (.int .i64) (.int .i64)))))) (.st (.sl (.st (.pr .bool (.sl (.st (.pr (.int .u8) (.pr (.int .u8) (.int .i64)))))))))))))) (.pr (.sl (.nm 0)) (.sl (.nm 1)))))), (.st (.pr .bool (.pr (.st (.pr .bool (.pr .bool (.pr .bool (.pr (.st (.pr (.sl (.st (.pr (.int .i64) (.int .i64)))) (.sl (.st (.pr (.int .i64) (.int .i64)))))) (.st (.sl (.st (.pr .bool (.sl (.st (.pr (.int .u8) (.pr (.int .u8) (.int .i64)))))))))))))) (.pr (.sl (.nm 0)) (.sl (.nm 1))))))], [(.st (.pr .bool (.pr (.st (.pr .bool (.pr .bool (.pr .bool (.pr (.st (.pr (.sl (.st (.pr (.int .i64) (.int .i64)))) (.sl (.st (.pr (.int .i64) (.int .i64)))))) (.st (.sl (.st (.pr .bool (.sl (.st (.pr (.int .u8) (.pr (.int .u8) (.int .i64)))))))))))))) (.pr (.sl (.nm 0)) (.sl (.nm 1))))))], fden (cx166 fu) fu Tryz.f74 [(.st (.pr .bool (.pr (.st (.pr .bool (.pr .bool (.pr .bool (.pr (.st (.pr (.sl (.st (.pr (.int .i64) (.int .i64)))) (.sl (.st (.pr (.int .i64) (.int .i64)))))) (.st (.sl (.st (.pr .bool (.sl (.st (.pr (.int .u8) (.pr (.int .u8) (.int .i64)))))))))))))) (.pr (.sl (.nm 0)) (.sl (.nm 1)))))), (.st (.pr .bool (.pr (.st (.pr .bool (.pr .bool (.pr .bool (.pr (.st (.pr (.sl (.st (.pr (.int .i64) (.int .i64)))) (.sl (.st (.pr (.int .i64) (.int .i64)))))) (.st (.sl (.st (.pr .bool (.sl (.st (.pr (.int .u8) (.pr (.int .u8) (.int .i64)))))))))))))) (.pr (.sl (.nm 0)) (.sl (.nm 1))))))] [(.st (.pr .bool (.pr (.st (.pr .bool (.pr .bool (.pr .bool (.pr (.st (.pr (.sl (.st (.pr (.int .i64) (.int .i64)))) (.sl (.st (.pr (.int .i64) (.int .i64)))))) (.st (.sl (.st (.pr .bool (.sl (.st (.pr (.int .u8) (.pr (.int .u8) (.int .i64)))))))))))))) (.pr (.sl (.nm 0)) (.sl (.nm 1))))))]⟩
theorem zs166 (fu : Nat) : SoundQ Tryz.prog 74 (Q166 fu) := fden_ok (cx := cx166 fu) (h166 fu) follows ent74 Tryz.func74 rfl rfl
def la167 : Nat → Option Pat := fun _ => none
def pr167 : Nat → List Gh := fun _ => []
def po167 : Nat → List Gh := fun _ => []
noncomputable def ph167 (fu : Nat) : Nat → Option (CQ (nEs [(80, 0), (81, 0), (88, 1), (89, 1), (110, 2), (111, 2)] [2, 2, 5]))
  | 74 => some (.dat (Q166 fu))
  | _ => none
theorem h167 (fu : Nat) : ∀ f q, ph167 fu f = some q → SoundC Tryz.prog f q := by
  intro f q h
  unfold ph167 at h
  split at h
  · cases h; exact zs166 fu
  · cases h
noncomputable def cx167 (fu : Nat) : Cx (nEs [(80, 0), (81, 0), (88, 1), (89, 1), (110, 2), (111, 2)] [2, 2, 5]) := ⟨Tryz.prog, ph167 fu, la167, fun _ => none, pr167, po167, 0, 16⟩
noncomputable def Q167 (fu : Nat) : FQ (nEs [(80, 0), (81, 0), (88, 1), (89, 1), (110, 2), (111, 2)] [2, 2, 5]) := ⟨[(.st (.pr (.st (.pr .bool (.pr (.st (.pr .bool (.pr .bool (.pr .bool (.pr (.st (.pr (.sl (.st (.pr (.int .i64) (.int .i64)))) (.sl (.st (.pr (.int .i64) (.int .i64)))))) (.st (.sl (.st (.pr .bool (.sl (.st (.pr (.int .u8) (.pr (.int .u8) (.int .i64)))))))))))))) (.pr (.sl (.nm 0)) (.sl (.nm 1)))))) (.st (.pr .bool (.pr (.st (.pr .bool (.pr .bool (.pr .bool (.pr (.st (.pr (.sl (.st (.pr (.int .i64) (.int .i64)))) (.sl (.st (.pr (.int .i64) (.int .i64)))))) (.st (.sl (.st (.pr .bool (.sl (.st (.pr (.int .u8) (.pr (.int .u8) (.int .i64)))))))))))))) (.pr (.sl (.nm 0)) (.sl (.nm 1)))))))), (.st (.pr (.st (.pr .bool (.pr (.st (.pr .bool (.pr .bool (.pr .bool (.pr (.st (.pr (.sl (.st (.pr (.int .i64) (.int .i64)))) (.sl (.st (.pr (.int .i64) (.int .i64)))))) (.st (.sl (.st (.pr .bool (.sl (.st (.pr (.int .u8) (.pr (.int .u8) (.int .i64)))))))))))))) (.pr (.sl (.nm 0)) (.sl (.nm 1)))))) (.st (.pr .bool (.pr (.st (.pr .bool (.pr .bool (.pr .bool (.pr (.st (.pr (.sl (.st (.pr (.int .i64) (.int .i64)))) (.sl (.st (.pr (.int .i64) (.int .i64)))))) (.st (.sl (.st (.pr .bool (.sl (.st (.pr (.int .u8) (.pr (.int .u8) (.int .i64)))))))))))))) (.pr (.sl (.nm 0)) (.sl (.nm 1))))))))], [(.st (.pr (.st (.pr .bool (.pr (.st (.pr .bool (.pr .bool (.pr .bool (.pr (.st (.pr (.sl (.st (.pr (.int .i64) (.int .i64)))) (.sl (.st (.pr (.int .i64) (.int .i64)))))) (.st (.sl (.st (.pr .bool (.sl (.st (.pr (.int .u8) (.pr (.int .u8) (.int .i64)))))))))))))) (.pr (.sl (.nm 0)) (.sl (.nm 1)))))) (.st (.pr .bool (.pr (.st (.pr .bool (.pr .bool (.pr .bool (.pr (.st (.pr (.sl (.st (.pr (.int .i64) (.int .i64)))) (.sl (.st (.pr (.int .i64) (.int .i64)))))) (.st (.sl (.st (.pr .bool (.sl (.st (.pr (.int .u8) (.pr (.int .u8) (.int .i64)))))))))))))) (.pr (.sl (.nm 0)) (.sl (.nm 1))))))))], fden (cx167 fu) fu Tryz.f47 [(.st (.pr (.st (.pr .bool (.pr (.st (.pr .bool (.pr .bool (.pr .bool (.pr (.st (.pr (.sl (.st (.pr (.int .i64) (.int .i64)))) (.sl (.st (.pr (.int .i64) (.int .i64)))))) (.st (.sl (.st (.pr .bool (.sl (.st (.pr (.int .u8) (.pr (.int .u8) (.int .i64)))))))))))))) (.pr (.sl (.nm 0)) (.sl (.nm 1)))))) (.st (.pr .bool (.pr (.st (.pr .bool (.pr .bool (.pr .bool (.pr (.st (.pr (.sl (.st (.pr (.int .i64) (.int .i64)))) (.sl (.st (.pr (.int .i64) (.int .i64)))))) (.st (.sl (.st (.pr .bool (.sl (.st (.pr (.int .u8) (.pr (.int .u8) (.int .i64)))))))))))))) (.pr (.sl (.nm 0)) (.sl (.nm 1)))))))), (.st (.pr (.st (.pr .bool (.pr (.st (.pr .bool (.pr .bool (.pr .bool (.pr (.st (.pr (.sl (.st (.pr (.int .i64) (.int .i64)))) (.sl (.st (.pr (.int .i64) (.int .i64)))))) (.st (.sl (.st (.pr .bool (.sl (.st (.pr (.int .u8) (.pr (.int .u8) (.int .i64)))))))))))))) (.pr (.sl (.nm 0)) (.sl (.nm 1)))))) (.st (.pr .bool (.pr (.st (.pr .bool (.pr .bool (.pr .bool (.pr (.st (.pr (.sl (.st (.pr (.int .i64) (.int .i64)))) (.sl (.st (.pr (.int .i64) (.int .i64)))))) (.st (.sl (.st (.pr .bool (.sl (.st (.pr (.int .u8) (.pr (.int .u8) (.int .i64)))))))))))))) (.pr (.sl (.nm 0)) (.sl (.nm 1))))))))] [(.st (.pr (.st (.pr .bool (.pr (.st (.pr .bool (.pr .bool (.pr .bool (.pr (.st (.pr (.sl (.st (.pr (.int .i64) (.int .i64)))) (.sl (.st (.pr (.int .i64) (.int .i64)))))) (.st (.sl (.st (.pr .bool (.sl (.st (.pr (.int .u8) (.pr (.int .u8) (.int .i64)))))))))))))) (.pr (.sl (.nm 0)) (.sl (.nm 1)))))) (.st (.pr .bool (.pr (.st (.pr .bool (.pr .bool (.pr .bool (.pr (.st (.pr (.sl (.st (.pr (.int .i64) (.int .i64)))) (.sl (.st (.pr (.int .i64) (.int .i64)))))) (.st (.sl (.st (.pr .bool (.sl (.st (.pr (.int .u8) (.pr (.int .u8) (.int .i64)))))))))))))) (.pr (.sl (.nm 0)) (.sl (.nm 1))))))))]⟩
theorem zs167 (fu : Nat) : SoundQ Tryz.prog 47 (Q167 fu) := fden_ok (cx := cx167 fu) (h167 fu) follows ent47 Tryz.func47 rfl rfl
def la168 : Nat → Option Pat := fun _ => none
def pr168 : Nat → List Gh := fun _ => []
def po168 : Nat → List Gh := fun _ => []
noncomputable def ph168 (fu : Nat) : Nat → Option (CQ (nEs [(80, 0), (81, 0), (88, 1), (89, 1), (110, 2), (111, 2)] [2, 2, 5]))
  | 40 => some (.dat (Q150 fu))
  | _ => none
theorem h168 (fu : Nat) : ∀ f q, ph168 fu f = some q → SoundC Tryz.prog f q := by
  intro f q h
  unfold ph168 at h
  split at h
  · cases h; exact zs150 fu
  · cases h
noncomputable def cx168 (fu : Nat) : Cx (nEs [(80, 0), (81, 0), (88, 1), (89, 1), (110, 2), (111, 2)] [2, 2, 5]) := ⟨Tryz.prog, ph168 fu, la168, fun _ => none, pr168, po168, 0, 11⟩
noncomputable def Q168 (fu : Nat) : FQ (nEs [(80, 0), (81, 0), (88, 1), (89, 1), (110, 2), (111, 2)] [2, 2, 5]) := ⟨[(.st (.pr (.st (.pr .bool (.pr (.st (.pr .bool (.pr .bool (.pr .bool (.pr (.st (.pr (.sl (.st (.pr (.int .i64) (.int .i64)))) (.sl (.st (.pr (.int .i64) (.int .i64)))))) (.st (.sl (.st (.pr .bool (.sl (.st (.pr (.int .u8) (.pr (.int .u8) (.int .i64)))))))))))))) (.pr (.sl (.nm 0)) (.sl (.nm 1)))))) (.st (.pr .bool (.pr (.st (.pr .bool (.pr .bool (.pr .bool (.pr (.st (.pr (.sl (.st (.pr (.int .i64) (.int .i64)))) (.sl (.st (.pr (.int .i64) (.int .i64)))))) (.st (.sl (.st (.pr .bool (.sl (.st (.pr (.int .u8) (.pr (.int .u8) (.int .i64)))))))))))))) (.pr (.sl (.nm 0)) (.sl (.nm 1))))))))], [(.st (.pr (.st (.pr .bool (.pr (.st (.pr .bool (.pr .bool (.pr .bool (.pr (.st (.pr (.sl (.st (.pr (.int .i64) (.int .i64)))) (.sl (.st (.pr (.int .i64) (.int .i64)))))) (.st (.sl (.st (.pr .bool (.sl (.st (.pr (.int .u8) (.pr (.int .u8) (.int .i64)))))))))))))) (.pr (.sl (.nm 0)) (.sl (.nm 1)))))) (.st (.pr .bool (.pr (.st (.pr .bool (.pr .bool (.pr .bool (.pr (.st (.pr (.sl (.st (.pr (.int .i64) (.int .i64)))) (.sl (.st (.pr (.int .i64) (.int .i64)))))) (.st (.sl (.st (.pr .bool (.sl (.st (.pr (.int .u8) (.pr (.int .u8) (.int .i64)))))))))))))) (.pr (.sl (.nm 0)) (.sl (.nm 1))))))))], fden (cx168 fu) fu Tryz.f46 [(.st (.pr (.st (.pr .bool (.pr (.st (.pr .bool (.pr .bool (.pr .bool (.pr (.st (.pr (.sl (.st (.pr (.int .i64) (.int .i64)))) (.sl (.st (.pr (.int .i64) (.int .i64)))))) (.st (.sl (.st (.pr .bool (.sl (.st (.pr (.int .u8) (.pr (.int .u8) (.int .i64)))))))))))))) (.pr (.sl (.nm 0)) (.sl (.nm 1)))))) (.st (.pr .bool (.pr (.st (.pr .bool (.pr .bool (.pr .bool (.pr (.st (.pr (.sl (.st (.pr (.int .i64) (.int .i64)))) (.sl (.st (.pr (.int .i64) (.int .i64)))))) (.st (.sl (.st (.pr .bool (.sl (.st (.pr (.int .u8) (.pr (.int .u8) (.int .i64)))))))))))))) (.pr (.sl (.nm 0)) (.sl (.nm 1))))))))] [(.st (.pr (.st (.pr .bool (.pr (.st (.pr .bool (.pr .bool (.pr .bool (.pr (.st (.pr (.sl (.st (.pr (.int .i64) (.int .i64)))) (.sl (.st (.pr (.int .i64) (.int .i64)))))) (.st (.sl (.st (.pr .bool (.sl (.st (.pr (.int .u8) (.pr (.int .u8) (.int .i64)))))))))))))) (.pr (.sl (.nm 0)) (.sl (.nm 1)))))) (.st (.pr .bool (.pr (.st (.pr .bool (.pr .bool (.pr .bool (.pr (.st (.pr (.sl (.st (.pr (.int .i64) (.int .i64)))) (.sl (.st (.pr (.int .i64) (.int .i64)))))) (.st (.sl (.st (.pr .bool (.sl (.st (.pr (.int .u8) (.pr (.int .u8) (.int .i64)))))))))))))) (.pr (.sl (.nm 0)) (.sl (.nm 1))))))))]⟩
theorem zs168 (fu : Nat) : SoundQ Tryz.prog 46 (Q168 fu) := fden_ok (cx := cx168 fu) (h168 fu) follows ent46 Tryz.func46 rfl rfl
def la169 : Nat → Option Pat := fun _ => none
def pr169 : Nat → List Gh := fun _ => []
def po169 : Nat → List Gh := fun _ => []
noncomputable def ph169 (fu : Nat) : Nat → Option (CQ (nEs [(80, 0), (81, 0), (88, 1), (89, 1), (110, 2), (111, 2)] [2, 2, 5]))
  | 21 => some (.dat (Q151 fu))
  | 46 => some (.dat (Q168 fu))
  | 47 => some (.dat (Q167 fu))
  | _ => none
theorem h169 (fu : Nat) : ∀ f q, ph169 fu f = some q → SoundC Tryz.prog f q := by
  intro f q h
  unfold ph169 at h
  split at h
  · cases h; exact zs151 fu
  · cases h; exact zs168 fu
  · cases h; exact zs167 fu
  · cases h
noncomputable def cx169 (fu : Nat) : Cx (nEs [(80, 0), (81, 0), (88, 1), (89, 1), (110, 2), (111, 2)] [2, 2, 5]) := ⟨Tryz.prog, ph169 fu, la169, fun _ => none, pr169, po169, 0, 19⟩
noncomputable def Q169 (fu : Nat) : FQ (nEs [(80, 0), (81, 0), (88, 1), (89, 1), (110, 2), (111, 2)] [2, 2, 5]) := ⟨[(.st (.pr (.st (.pr .bool (.pr (.st (.pr .bool (.pr .bool (.pr .bool (.pr (.st (.pr (.sl (.st (.pr (.int .i64) (.int .i64)))) (.sl (.st (.pr (.int .i64) (.int .i64)))))) (.st (.sl (.st (.pr .bool (.sl (.st (.pr (.int .u8) (.pr (.int .u8) (.int .i64)))))))))))))) (.pr (.sl (.nm 0)) (.sl (.nm 1)))))) (.st (.pr .bool (.pr (.st (.pr .bool (.pr .bool (.pr .bool (.pr (.st (.pr (.sl (.st (.pr (.int .i64) (.int .i64)))) (.sl (.st (.pr (.int .i64) (.int .i64)))))) (.st (.sl (.st (.pr .bool (.sl (.st (.pr (.int .u8) (.pr (.int .u8) (.int .i64)))))))))))))) (.pr (.sl (.nm 0)) (.sl (.nm 1)))))))), (.st (.pr (.st (.pr .bool (.pr (.st (.pr .bool (.pr .bool (.pr .bool (.pr (.st (.pr (.sl (.st (.pr (.int .i64) (.int .i64)))) (.sl (.st (.pr (.int .i64) (.int .i64)))))) (.st (.sl (.st (.pr .bool (.sl (.st (.pr (.int .u8) (.pr (.int .u8) (.int .i64)))))))))))))) (.pr (.sl (.nm 0)) (.sl (.nm 1)))))) (.st (.pr .bool (.pr (.st (.pr .bool (.pr .bool (.pr .bool (.pr (.st (.pr (.sl (.st (.pr (.int .i64) (.int .i64)))) (.sl (.st (.pr (.int .i64) (.int .i64)))))) (.st (.sl (.st (.pr .bool (.sl (.st (.pr (.int .u8) (.pr (.int .u8) (.int .i64)))))))))))))) (.pr (.sl (.nm 0)) (.sl (.nm 1))))))))], [(.st (.pr (.st (.pr .bool (.pr (.st (.pr .bool (.pr .bool (.pr .bool (.pr (.st (.pr (.sl (.st (.pr (.int .i64) (.int .i64)))) (.sl (.st (.pr (.int .i64) (.int .i64)))))) (.st (.sl (.st (.pr .bool (.sl (.st (.pr (.int .u8) (.pr (.int .u8) (.int .i64)))))))))))))) (.pr (.sl (.nm 0)) (.sl (.nm 1)))))) (.st (.pr .bool (.pr (.st (.pr .bool (.pr .bool (.pr .bool (.pr (.st (.pr (.sl (.st (.pr (.int .i64) (.int .i64)))) (.sl (.st (.pr (.int .i64) (.int .i64)))))) (.st (.sl (.st (.pr .bool (.sl (.st (.pr (.int .u8) (.pr (.int .u8) (.int .i64)))))))))))))) (.pr (.sl (.nm 0)) (.sl (.nm 1)))))))), (.int .i64)], fden (cx169 fu) fu Tryz.f33 [(.st (.pr (.st (.pr .bool (.pr (.st (.pr .bool (.pr .bool (.pr .bool (.pr (.st (.pr (.sl (.st (.pr (.int .i64) (.int .i64)))) (.sl (.st (.pr (.int .i64) (.int .i64)))))) (.st (.sl (.st (.pr .bool (.sl (.st (.pr (.int .u8) (.pr (.int .u8) (.int .i64)))))))))))))) (.pr (.sl (.nm 0)) (.sl (.nm 1)))))) (.st (.pr .bool (.pr (.st (.pr .bool (.pr .bool (.pr .bool (.pr (.st (.pr (.sl (.st (.pr (.int .i64) (.int .i64)))) (.sl (.st (.pr (.int .i64) (.int .i64)))))) (.st (.sl (.st (.pr .bool (.sl (.st (.pr (.int .u8) (.pr (.int .u8) (.int .i64)))))))))))))) (.pr (.sl (.nm 0)) (.sl (.nm 1)))))))), (.st (.pr (.st (.pr .bool (.pr (.st (.pr .bool (.pr .bool (.pr .bool (.pr (.st (.pr (.sl (.st (.pr (.int .i64) (.int .i64)))) (.sl (.st (.pr (.int .i64) (.int .i64)))))) (.st (.sl (.st (.pr .bool (.sl (.st (.pr (.int .u8) (.pr (.int .u8) (.int .i64)))))))))))))) (.pr (.sl (.nm 0)) (.sl (.nm 1)))))) (.st (.pr .bool (.pr (.st (.pr .bool (.pr .bool (.pr .bool (.pr (.st (.pr (.sl (.st (.pr (.int .i64) (.int .i64)))) (.sl (.st (.pr (.int .i64) (.int .i64)))))) (.st (.sl (.st (.pr .bool (.sl (.st (.pr (.int .u8) (.pr (.int .u8) (.int .i64)))))))))))))) (.pr (.sl (.nm 0)) (.sl (.nm 1))))))))] [(.st (.pr (.st (.pr .bool (.pr (.st (.pr .bool (.pr .bool (.pr .bool (.pr (.st (.pr (.sl (.st (.pr (.int .i64) (.int .i64)))) (.sl (.st (.pr (.int .i64) (.int .i64)))))) (.st (.sl (.st (.pr .bool (.sl (.st (.pr (.int .u8) (.pr (.int .u8) (.int .i64)))))))))))))) (.pr (.sl (.nm 0)) (.sl (.nm 1)))))) (.st (.pr .bool (.pr (.st (.pr .bool (.pr .bool (.pr .bool (.pr (.st (.pr (.sl (.st (.pr (.int .i64) (.int .i64)))) (.sl (.st (.pr (.int .i64) (.int .i64)))))) (.st (.sl (.st (.pr .bool (.sl (.st (.pr (.int .u8) (.pr (.int .u8) (.int .i64)))))))))))))) (.pr (.sl (.nm 0)) (.sl (.nm 1)))))))), (.int .i64)]⟩
theorem zs169 (fu : Nat) : SoundQ Tryz.prog 33 (Q169 fu) := fden_ok (cx := cx169 fu) (h169 fu) follows ent33 Tryz.func33 rfl rfl
def la170 : Nat → Option Pat := fun _ => none
def pr170 : Nat → List Gh := fun _ => []
def po170 : Nat → List Gh := fun _ => []
noncomputable def ph170 (fu : Nat) : Nat → Option (CQ (nEs [(80, 0), (81, 0), (88, 1), (89, 1), (110, 2), (111, 2)] [2, 2, 5]))
  | 48 => some (.dat (Q1 fu))
  | 49 => some (.dat (Q136 fu))
  | _ => none
theorem h170 (fu : Nat) : ∀ f q, ph170 fu f = some q → SoundC Tryz.prog f q := by
  intro f q h
  unfold ph170 at h
  split at h
  · cases h; exact zs1 fu
  · cases h; exact zs136 fu
  · cases h
noncomputable def cx170 (fu : Nat) : Cx (nEs [(80, 0), (81, 0), (88, 1), (89, 1), (110, 2), (111, 2)] [2, 2, 5]) := ⟨Tryz.prog, ph170 fu, la170, fun _ => none, pr170, po170, 0, 26⟩
noncomputable def Q170 (fu : Nat) : FQ (nEs [(80, 0), (81, 0), (88, 1), (89, 1), (110, 2), (111, 2)] [2, 2, 5]) := ⟨[(.st (.pr .bool (.pr (.st (.pr .bool (.pr .bool (.pr .bool (.pr (.st (.pr (.sl (.st (.pr (.int .i64) (.int .i64)))) (.sl (.st (.pr (.int .i64) (.int .i64)))))) (.st (.sl (.st (.pr .bool (.sl (.st (.pr (.int .u8) (.pr (.int .u8) (.int .i64)))))))))))))) (.pr (.sl (.nm 0)) (.sl (.nm 1))))))], [.bool], fden (cx170 fu) fu Tryz.f34 [(.st (.pr .bool (.pr (.st (.pr .bool (.pr .bool (.pr .bool (.pr (.st (.pr (.sl (.st (.pr (.int .i64) (.int .i64)))) (.sl (.st (.pr (.int .i64) (.int .i64)))))) (.st (.sl (.st (.pr .bool (.sl (.st (.pr (.int .u8) (.pr (.int .u8) (.int .i64)))))))))))))) (.pr (.sl (.nm 0)) (.sl (.nm 1))))))] [.bool]⟩
theorem zs170 (fu : Nat) : SoundQ Tryz.prog 34 (Q170 fu) := fden_ok (cx := cx170 fu) (h170 fu) follows ent34 Tryz.func34 rfl rfl
def la171 : Nat → Option Pat := fun _ => none
def pr171 : Nat → List Gh := fun _ => []
def po171 : Nat → List Gh := fun _ => []
def ph171 (_ : Nat) : Nat → Option (CQ (nEs [(80, 0), (81, 0), (88, 1), (89, 1), (110, 2), (111, 2)] [2, 2, 5])) := fun _ => none
theorem h171 (fu : Nat) : ∀ f q, ph171 fu f = some q → SoundC Tryz.prog f q := fun _ _ h => by cases h
noncomputable def cx171 (fu : Nat) : Cx (nEs [(80, 0), (81, 0), (88, 1), (89, 1), (110, 2), (111, 2)] [2, 2, 5]) := ⟨Tryz.prog, ph171 fu, la171, fun _ => none, pr171, po171, 0, 52⟩
noncomputable def Q171 (fu : Nat) : FQ (nEs [(80, 0), (81, 0), (88, 1), (89, 1), (110, 2), (111, 2)] [2, 2, 5]) := ⟨[(.st (.pr .bool (.pr (.st (.pr .bool (.pr .bool (.pr .bool (.pr (.st (.pr (.sl (.st (.pr (.int .i64) (.int .i64)))) (.sl (.st (.pr (.int .i64) (.int .i64)))))) (.st (.sl (.st (.pr .bool (.sl (.st (.pr (.int .u8) (.pr (.int .u8) (.int .i64)))))))))))))) (.pr (.sl (.nm 0)) (.sl (.nm 1))))))], [.bool], fden (cx171 fu) fu Tryz.f76 [(.st (.pr .bool (.pr (.st (.pr .bool (.pr .bool (.pr .bool (.pr (.st (.pr (.sl (.st (.pr (.int .i64) (.int .i64)))) (.sl (.st (.pr (.int .i64) (.int .i64)))))) (.st (.sl (.st (.pr .bool (.sl (.st (.pr (.int .u8) (.pr (.int .u8) (.int .i64)))))))))))))) (.pr (.sl (.nm 0)) (.sl (.nm 1))))))] [.bool]⟩
theorem zs171 (fu : Nat) : SoundQ Tryz.prog 76 (Q171 fu) := fden_ok (cx := cx171 fu) (h171 fu) follows ent76 Tryz.func76 rfl rfl
def la172 : Nat → Option Pat
  | 3 => some ⟨[.dat (.sl (.st (.pr (.int .i64) (.int .i64)))), .nat], [(3, .hdr 0), (10, .keep), (11, .keep), (12, .cnt 1 301)], [(0, .row 52 0)], 1⟩
  | 9 => some ⟨[.dat (.sl (.st (.pr (.int .i64) (.int .i64)))), .dat (.int .i64), .dat (.int .i64), .dat .bool, .nat], [(5, .keep), (6, .hdr 2), (7, .v 3 .bool), (10, .keep), (11, .keep), (12, .keep), (21, .keep), (22, .keep), (23, .cnt 4 904)], [(0, .c 0), (1, .blk 52 [(1, .v 1 (.int .i64)), (1, .v 2 (.int .i64))]), (2, .row 52 0)], 3⟩
  | _ => none
def pr172 : Nat → List Gh := fun _ => []
def po172 : Nat → List Gh
  | 2 => [.own 3 52 (.st (.pr (.int .i64) (.int .i64)))]
  | 8 => [.own 6 52 (.st (.pr (.int .i64) (.int .i64)))]
  | 25 => [.fz 2]
  | _ => []
def ph172 (_ : Nat) : Nat → Option (CQ (nEs [(80, 0), (81, 0), (88, 1), (89, 1), (110, 2), (111, 2)] [2, 2, 5])) := fun _ => none
theorem h172 (fu : Nat) : ∀ f q, ph172 fu f = some q → SoundC Tryz.prog f q := fun _ _ h => by cases h
noncomputable def cx172 (fu : Nat) : Cx (nEs [(80, 0), (81, 0), (88, 1), (89, 1), (110, 2), (111, 2)] [2, 2, 5]) := ⟨Tryz.prog, ph172 fu, la172, fun _ => none, pr172, po172, 0, 75⟩
noncomputable def Q172 (fu : Nat) : FQ (nEs [(80, 0), (81, 0), (88, 1), (89, 1), (110, 2), (111, 2)] [2, 2, 5]) := ⟨[(.sl (.st (.pr (.int .i64) (.int .i64))))], [(.sl (.st (.pr (.int .i64) (.int .i64))))], fden (cx172 fu) fu Tryz.f320 [(.sl (.st (.pr (.int .i64) (.int .i64))))] [(.sl (.st (.pr (.int .i64) (.int .i64))))]⟩
theorem zs172 (fu : Nat) : SoundQ Tryz.prog 320 (Q172 fu) := fden_ok (cx := cx172 fu) (h172 fu) follows ent320 Tryz.func320 rfl rfl
def la173 : Nat → Option Pat
  | 3 => some ⟨[.dat (.sl (.st (.pr (.int .i64) (.int .i64)))), .nat], [(3, .hdr 1), (7, .keep), (8, .keep), (9, .cnt 1 301)], [(1, .row 52 0)], 2⟩
  | _ => none
def pr173 : Nat → List Gh
  | 7 => [.fz 3]
  | _ => []
def po173 : Nat → List Gh
  | 2 => [.own 3 52 (.st (.pr (.int .i64) (.int .i64)))]
  | _ => []
noncomputable def ph173 (fu : Nat) : Nat → Option (CQ (nEs [(80, 0), (81, 0), (88, 1), (89, 1), (110, 2), (111, 2)] [2, 2, 5]))
  | 320 => some (.dat (Q172 fu))
  | _ => none
theorem h173 (fu : Nat) : ∀ f q, ph173 fu f = some q → SoundC Tryz.prog f q := by
  intro f q h
  unfold ph173 at h
  split at h
  · cases h; exact zs172 fu
  · cases h
noncomputable def cx173 (fu : Nat) : Cx (nEs [(80, 0), (81, 0), (88, 1), (89, 1), (110, 2), (111, 2)] [2, 2, 5]) := ⟨Tryz.prog, ph173 fu, la173, fun _ => none, pr173, po173, 0, 26⟩
noncomputable def Q173 (fu : Nat) : FQ (nEs [(80, 0), (81, 0), (88, 1), (89, 1), (110, 2), (111, 2)] [2, 2, 5]) := ⟨[(.st (.pr (.sl (.st (.pr (.int .i64) (.int .i64)))) (.sl (.st (.pr (.int .i64) (.int .i64))))))], [(.sl (.st (.pr (.int .i64) (.int .i64))))], fden (cx173 fu) fu Tryz.f252 [(.st (.pr (.sl (.st (.pr (.int .i64) (.int .i64)))) (.sl (.st (.pr (.int .i64) (.int .i64))))))] [(.sl (.st (.pr (.int .i64) (.int .i64))))]⟩
theorem zs173 (fu : Nat) : SoundQ Tryz.prog 252 (Q173 fu) := fden_ok (cx := cx173 fu) (h173 fu) follows ent252 Tryz.func252 rfl rfl
def la174 : Nat → Option Pat := fun _ => none
def pr174 : Nat → List Gh := fun _ => []
def po174 : Nat → List Gh := fun _ => []
def ph174 (_ : Nat) : Nat → Option (CQ (nEs [(80, 0), (81, 0), (88, 1), (89, 1), (110, 2), (111, 2)] [2, 2, 5])) := fun _ => none
theorem h174 (fu : Nat) : ∀ f q, ph174 fu f = some q → SoundC Tryz.prog f q := fun _ _ h => by cases h
noncomputable def cx174 (fu : Nat) : Cx (nEs [(80, 0), (81, 0), (88, 1), (89, 1), (110, 2), (111, 2)] [2, 2, 5]) := ⟨Tryz.prog, ph174 fu, la174, fun _ => none, pr174, po174, 0, 6⟩
noncomputable def Q174 (fu : Nat) : FQ (nEs [(80, 0), (81, 0), (88, 1), (89, 1), (110, 2), (111, 2)] [2, 2, 5]) := ⟨[(.int .i64)], [.bool], fden (cx174 fu) fu Tryz.f321 [(.int .i64)] [.bool]⟩
theorem zs174 (fu : Nat) : SoundQ Tryz.prog 321 (Q174 fu) := fden_ok (cx := cx174 fu) (h174 fu) follows ent321 Tryz.func321 rfl rfl
def la175 : Nat → Option Pat := fun _ => none
def pr175 : Nat → List Gh := fun _ => []
def po175 : Nat → List Gh := fun _ => []
def ph175 (_ : Nat) : Nat → Option (CQ (nEs [(80, 0), (81, 0), (88, 1), (89, 1), (110, 2), (111, 2)] [2, 2, 5])) := fun _ => none
theorem h175 (fu : Nat) : ∀ f q, ph175 fu f = some q → SoundC Tryz.prog f q := fun _ _ h => by cases h
noncomputable def cx175 (fu : Nat) : Cx (nEs [(80, 0), (81, 0), (88, 1), (89, 1), (110, 2), (111, 2)] [2, 2, 5]) := ⟨Tryz.prog, ph175 fu, la175, fun _ => none, pr175, po175, 0, 12⟩
noncomputable def Q175 (fu : Nat) : FQ (nEs [(80, 0), (81, 0), (88, 1), (89, 1), (110, 2), (111, 2)] [2, 2, 5]) := ⟨[(.int .i64)], [(.int .i64)], fden (cx175 fu) fu Tryz.f378 [(.int .i64)] [(.int .i64)]⟩
theorem zs175 (fu : Nat) : SoundQ Tryz.prog 378 (Q175 fu) := fden_ok (cx := cx175 fu) (h175 fu) follows ent378 Tryz.func378 rfl rfl
def la176 : Nat → Option Pat := fun _ => none
def pr176 : Nat → List Gh := fun _ => []
def po176 : Nat → List Gh := fun _ => []
noncomputable def ph176 (fu : Nat) : Nat → Option (CQ (nEs [(80, 0), (81, 0), (88, 1), (89, 1), (110, 2), (111, 2)] [2, 2, 5]))
  | 378 => some (.dat (Q175 fu))
  | _ => none
theorem h176 (fu : Nat) : ∀ f q, ph176 fu f = some q → SoundC Tryz.prog f q := by
  intro f q h
  unfold ph176 at h
  split at h
  · cases h; exact zs175 fu
  · cases h
noncomputable def cx176 (fu : Nat) : Cx (nEs [(80, 0), (81, 0), (88, 1), (89, 1), (110, 2), (111, 2)] [2, 2, 5]) := ⟨Tryz.prog, ph176 fu, la176, fun _ => none, pr176, po176, 0, 14⟩
noncomputable def Q176 (fu : Nat) : FQ (nEs [(80, 0), (81, 0), (88, 1), (89, 1), (110, 2), (111, 2)] [2, 2, 5]) := ⟨[(.int .i64)], [(.int .i64)], fden (cx176 fu) fu Tryz.f322 [(.int .i64)] [(.int .i64)]⟩
theorem zs176 (fu : Nat) : SoundQ Tryz.prog 322 (Q176 fu) := fden_ok (cx := cx176 fu) (h176 fu) follows ent322 Tryz.func322 rfl rfl
def la177 : Nat → Option Pat
  | 3 => some ⟨[.dat (.sl (.st (.pr (.int .i64) (.int .i64)))), .nat], [(3, .hdr 1), (9, .keep), (10, .keep), (11, .cnt 1 301)], [(1, .row 52 0)], 2⟩
  | _ => none
def pr177 : Nat → List Gh
  | 14 => [.fz 3]
  | _ => []
def po177 : Nat → List Gh
  | 2 => [.own 3 52 (.st (.pr (.int .i64) (.int .i64)))]
  | _ => []
noncomputable def ph177 (fu : Nat) : Nat → Option (CQ (nEs [(80, 0), (81, 0), (88, 1), (89, 1), (110, 2), (111, 2)] [2, 2, 5]))
  | 320 => some (.dat (Q172 fu))
  | 321 => some (.dat (Q174 fu))
  | 322 => some (.dat (Q176 fu))
  | _ => none
theorem h177 (fu : Nat) : ∀ f q, ph177 fu f = some q → SoundC Tryz.prog f q := by
  intro f q h
  unfold ph177 at h
  split at h
  · cases h; exact zs172 fu
  · cases h; exact zs174 fu
  · cases h; exact zs176 fu
  · cases h
noncomputable def cx177 (fu : Nat) : Cx (nEs [(80, 0), (81, 0), (88, 1), (89, 1), (110, 2), (111, 2)] [2, 2, 5]) := ⟨Tryz.prog, ph177 fu, la177, fun _ => none, pr177, po177, 0, 46⟩
noncomputable def Q177 (fu : Nat) : FQ (nEs [(80, 0), (81, 0), (88, 1), (89, 1), (110, 2), (111, 2)] [2, 2, 5]) := ⟨[(.st (.pr (.sl (.st (.pr (.int .i64) (.int .i64)))) (.sl (.st (.pr (.int .i64) (.int .i64))))))], [(.sl (.st (.pr (.int .i64) (.int .i64))))], fden (cx177 fu) fu Tryz.f253 [(.st (.pr (.sl (.st (.pr (.int .i64) (.int .i64)))) (.sl (.st (.pr (.int .i64) (.int .i64))))))] [(.sl (.st (.pr (.int .i64) (.int .i64))))]⟩
theorem zs177 (fu : Nat) : SoundQ Tryz.prog 253 (Q177 fu) := fden_ok (cx := cx177 fu) (h177 fu) follows ent253 Tryz.func253 rfl rfl
def la178 : Nat → Option Pat := fun _ => none
def pr178 : Nat → List Gh := fun _ => []
def po178 : Nat → List Gh := fun _ => []
def ph178 (_ : Nat) : Nat → Option (CQ (nEs [(80, 0), (81, 0), (88, 1), (89, 1), (110, 2), (111, 2)] [2, 2, 5])) := fun _ => none
theorem h178 (fu : Nat) : ∀ f q, ph178 fu f = some q → SoundC Tryz.prog f q := fun _ _ h => by cases h
noncomputable def cx178 (fu : Nat) : Cx (nEs [(80, 0), (81, 0), (88, 1), (89, 1), (110, 2), (111, 2)] [2, 2, 5]) := ⟨Tryz.prog, ph178 fu, la178, fun _ => none, pr178, po178, 0, 19⟩
noncomputable def Q178 (fu : Nat) : FQ (nEs [(80, 0), (81, 0), (88, 1), (89, 1), (110, 2), (111, 2)] [2, 2, 5]) := ⟨[(.int .i64)], [(.int .i64)], fden (cx178 fu) fu Tryz.f319 [(.int .i64)] [(.int .i64)]⟩
theorem zs178 (fu : Nat) : SoundQ Tryz.prog 319 (Q178 fu) := fden_ok (cx := cx178 fu) (h178 fu) follows ent319 Tryz.func319 rfl rfl
def la179 : Nat → Option Pat
  | 3 => some ⟨[.dat (.sl (.st (.pr (.int .i64) (.int .i64)))), .nat], [(4, .keep), (5, .keep), (10, .keep), (11, .keep), (12, .cnt 1 301)], [(1, .blk 25 [(1, .keep), (1, .hdr 2)]), (0, .c 0), (2, .row 52 0)], 3⟩
  | _ => none
def pr179 : Nat → List Gh := fun _ => []
def po179 : Nat → List Gh
  | 2 => [.ownb 5 1 52 (.st (.pr (.int .i64) (.int .i64)))]
  | 7 => [.fzb 4 1]
  | _ => []
noncomputable def ph179 (fu : Nat) : Nat → Option (CQ (nEs [(80, 0), (81, 0), (88, 1), (89, 1), (110, 2), (111, 2)] [2, 2, 5]))
  | 319 => some (.dat (Q178 fu))
  | _ => none
theorem h179 (fu : Nat) : ∀ f q, ph179 fu f = some q → SoundC Tryz.prog f q := by
  intro f q h
  unfold ph179 at h
  split at h
  · cases h; exact zs178 fu
  · cases h
noncomputable def cx179 (fu : Nat) : Cx (nEs [(80, 0), (81, 0), (88, 1), (89, 1), (110, 2), (111, 2)] [2, 2, 5]) := ⟨Tryz.prog, ph179 fu, la179, fun _ => none, pr179, po179, 0, 30⟩
noncomputable def Q179 (fu : Nat) : FQ (nEs [(80, 0), (81, 0), (88, 1), (89, 1), (110, 2), (111, 2)] [2, 2, 5]) := ⟨[(.sl (.st (.pr (.int .i64) (.int .i64)))), (.sl (.st (.pr (.int .i64) (.int .i64))))], [(.st (.pr (.sl (.st (.pr (.int .i64) (.int .i64)))) (.sl (.st (.pr (.int .i64) (.int .i64))))))], fden (cx179 fu) fu Tryz.f251 [(.sl (.st (.pr (.int .i64) (.int .i64)))), (.sl (.st (.pr (.int .i64) (.int .i64))))] [(.st (.pr (.sl (.st (.pr (.int .i64) (.int .i64)))) (.sl (.st (.pr (.int .i64) (.int .i64))))))]⟩
theorem zs179 (fu : Nat) : SoundQ Tryz.prog 251 (Q179 fu) := fden_ok (cx := cx179 fu) (h179 fu) follows ent251 Tryz.func251 rfl rfl
def la180 : Nat → Option Pat := fun _ => none
def pr180 : Nat → List Gh := fun _ => []
def po180 : Nat → List Gh := fun _ => []
noncomputable def ph180 (fu : Nat) : Nat → Option (CQ (nEs [(80, 0), (81, 0), (88, 1), (89, 1), (110, 2), (111, 2)] [2, 2, 5]))
  | 251 => some (.dat (Q179 fu))
  | 252 => some (.dat (Q173 fu))
  | 253 => some (.dat (Q177 fu))
  | _ => none
theorem h180 (fu : Nat) : ∀ f q, ph180 fu f = some q → SoundC Tryz.prog f q := by
  intro f q h
  unfold ph180 at h
  split at h
  · cases h; exact zs179 fu
  · cases h; exact zs173 fu
  · cases h; exact zs177 fu
  · cases h
noncomputable def cx180 (fu : Nat) : Cx (nEs [(80, 0), (81, 0), (88, 1), (89, 1), (110, 2), (111, 2)] [2, 2, 5]) := ⟨Tryz.prog, ph180 fu, la180, fun _ => none, pr180, po180, 0, 8⟩
noncomputable def Q180 (fu : Nat) : FQ (nEs [(80, 0), (81, 0), (88, 1), (89, 1), (110, 2), (111, 2)] [2, 2, 5]) := ⟨[(.st (.pr (.sl (.st (.pr (.int .i64) (.int .i64)))) (.sl (.st (.pr (.int .i64) (.int .i64))))))], [(.st (.pr (.sl (.st (.pr (.int .i64) (.int .i64)))) (.sl (.st (.pr (.int .i64) (.int .i64))))))], fden (cx180 fu) fu Tryz.f179 [(.st (.pr (.sl (.st (.pr (.int .i64) (.int .i64)))) (.sl (.st (.pr (.int .i64) (.int .i64))))))] [(.st (.pr (.sl (.st (.pr (.int .i64) (.int .i64)))) (.sl (.st (.pr (.int .i64) (.int .i64))))))]⟩
theorem zs180 (fu : Nat) : SoundQ Tryz.prog 179 (Q180 fu) := fden_ok (cx := cx180 fu) (h180 fu) follows ent179 Tryz.func179 rfl rfl
def la181 : Nat → Option Pat
  | 4 => some ⟨[.nat], [(0, .keep), (1, .keep), (12, .keep), (13, .cnt 0 400)], [], 0⟩
  | _ => none
def pr181 : Nat → List Gh := fun _ => []
def po181 : Nat → List Gh := fun _ => []
def ph181 (_ : Nat) : Nat → Option (CQ (nEs [(80, 0), (81, 0), (88, 1), (89, 1), (110, 2), (111, 2)] [2, 2, 5])) := fun _ => none
theorem h181 (fu : Nat) : ∀ f q, ph181 fu f = some q → SoundC Tryz.prog f q := fun _ _ h => by cases h
noncomputable def cx181 (fu : Nat) : Cx (nEs [(80, 0), (81, 0), (88, 1), (89, 1), (110, 2), (111, 2)] [2, 2, 5]) := ⟨Tryz.prog, ph181 fu, la181, fun _ => none, pr181, po181, 0, 26⟩
noncomputable def Q181 (fu : Nat) : FQ (nEs [(80, 0), (81, 0), (88, 1), (89, 1), (110, 2), (111, 2)] [2, 2, 5]) := ⟨[(.sl (.st (.pr (.int .i64) (.int .i64)))), (.sl (.st (.pr (.int .i64) (.int .i64))))], [.bool], fden (cx181 fu) fu Tryz.f250 [(.sl (.st (.pr (.int .i64) (.int .i64)))), (.sl (.st (.pr (.int .i64) (.int .i64))))] [.bool]⟩
theorem zs181 (fu : Nat) : SoundQ Tryz.prog 250 (Q181 fu) := fden_ok (cx := cx181 fu) (h181 fu) follows ent250 Tryz.func250 rfl rfl
def la182 : Nat → Option Pat := fun _ => none
def pr182 : Nat → List Gh := fun _ => []
def po182 : Nat → List Gh := fun _ => []
noncomputable def ph182 (fu : Nat) : Nat → Option (CQ (nEs [(80, 0), (81, 0), (88, 1), (89, 1), (110, 2), (111, 2)] [2, 2, 5]))
  | 250 => some (.dat (Q181 fu))
  | _ => none
theorem h182 (fu : Nat) : ∀ f q, ph182 fu f = some q → SoundC Tryz.prog f q := by
  intro f q h
  unfold ph182 at h
  split at h
  · cases h; exact zs181 fu
  · cases h
noncomputable def cx182 (fu : Nat) : Cx (nEs [(80, 0), (81, 0), (88, 1), (89, 1), (110, 2), (111, 2)] [2, 2, 5]) := ⟨Tryz.prog, ph182 fu, la182, fun _ => none, pr182, po182, 0, 17⟩
noncomputable def Q182 (fu : Nat) : FQ (nEs [(80, 0), (81, 0), (88, 1), (89, 1), (110, 2), (111, 2)] [2, 2, 5]) := ⟨[(.st (.pr (.sl (.st (.pr (.int .i64) (.int .i64)))) (.sl (.st (.pr (.int .i64) (.int .i64)))))), (.st (.pr (.sl (.st (.pr (.int .i64) (.int .i64)))) (.sl (.st (.pr (.int .i64) (.int .i64))))))], [.bool], fden (cx182 fu) fu Tryz.f178 [(.st (.pr (.sl (.st (.pr (.int .i64) (.int .i64)))) (.sl (.st (.pr (.int .i64) (.int .i64)))))), (.st (.pr (.sl (.st (.pr (.int .i64) (.int .i64)))) (.sl (.st (.pr (.int .i64) (.int .i64))))))] [.bool]⟩
theorem zs182 (fu : Nat) : SoundQ Tryz.prog 178 (Q182 fu) := fden_ok (cx := cx182 fu) (h182 fu) follows ent178 Tryz.func178 rfl rfl
def la183 : Nat → Option Pat := fun _ => none
def pr183 : Nat → List Gh := fun _ => []
def po183 : Nat → List Gh := fun _ => []
noncomputable def ph183 (fu : Nat) : Nat → Option (CQ (nEs [(80, 0), (81, 0), (88, 1), (89, 1), (110, 2), (111, 2)] [2, 2, 5]))
  | 178 => some (.dat (Q182 fu))
  | 179 => some (.dat (Q180 fu))
  | _ => none
theorem h183 (fu : Nat) : ∀ f q, ph183 fu f = some q → SoundC Tryz.prog f q := by
  intro f q h
  unfold ph183 at h
  split at h
  · cases h; exact zs182 fu
  · cases h; exact zs180 fu
  · cases h
noncomputable def cx183 (fu : Nat) : Cx (nEs [(80, 0), (81, 0), (88, 1), (89, 1), (110, 2), (111, 2)] [2, 2, 5]) := ⟨Tryz.prog, ph183 fu, la183, fun _ => none, pr183, po183, 0, 7⟩
noncomputable def Q183 (fu : Nat) : FQ (nEs [(80, 0), (81, 0), (88, 1), (89, 1), (110, 2), (111, 2)] [2, 2, 5]) := ⟨[(.st (.pr (.sl (.st (.pr (.int .i64) (.int .i64)))) (.sl (.st (.pr (.int .i64) (.int .i64))))))], [.bool], fden (cx183 fu) fu Tryz.f114 [(.st (.pr (.sl (.st (.pr (.int .i64) (.int .i64)))) (.sl (.st (.pr (.int .i64) (.int .i64))))))] [.bool]⟩
theorem zs183 (fu : Nat) : SoundQ Tryz.prog 114 (Q183 fu) := fden_ok (cx := cx183 fu) (h183 fu) follows ent114 Tryz.func114 rfl rfl
def la184 : Nat → Option Pat
  | 2 => some ⟨[.nat], [(0, .keep), (7, .keep), (8, .keep), (9, .cnt 0 200)], [], 0⟩
  | 5 => some ⟨[.nat], [(0, .keep), (4, .keep), (7, .keep), (8, .keep), (9, .keep), (14, .keep), (15, .keep), (16, .cnt 0 500)], [(0, .c 0)], 1⟩
  | _ => none
def pr184 : Nat → List Gh := fun _ => []
def po184 : Nat → List Gh := fun _ => []
def ph184 (_ : Nat) : Nat → Option (CQ (nEs [(80, 0), (81, 0), (88, 1), (89, 1), (110, 2), (111, 2)] [2, 2, 5])) := fun _ => none
theorem h184 (fu : Nat) : ∀ f q, ph184 fu f = some q → SoundC Tryz.prog f q := fun _ _ h => by cases h
noncomputable def cx184 (fu : Nat) : Cx (nEs [(80, 0), (81, 0), (88, 1), (89, 1), (110, 2), (111, 2)] [2, 2, 5]) := ⟨Tryz.prog, ph184 fu, la184, fun _ => none, pr184, po184, 0, 56⟩
noncomputable def Q184 (fu : Nat) : FQ (nEs [(80, 0), (81, 0), (88, 1), (89, 1), (110, 2), (111, 2)] [2, 2, 5]) := ⟨[(.sl (.st (.pr .bool (.sl (.st (.pr (.int .u8) (.pr (.int .u8) (.int .i64))))))))], [.bool], fden (cx184 fu) fu Tryz.f254 [(.sl (.st (.pr .bool (.sl (.st (.pr (.int .u8) (.pr (.int .u8) (.int .i64))))))))] [.bool]⟩
theorem zs184 (fu : Nat) : SoundQ Tryz.prog 254 (Q184 fu) := fden_ok (cx := cx184 fu) (h184 fu) follows ent254 Tryz.func254 rfl rfl
def la185 : Nat → Option Pat
  | 3 => some ⟨[.dat (.sl .bool), .nat], [(0, .keep), (3, .keep), (12, .keep), (13, .cnt 1 301)], [(0, .row 4 0)], 1⟩
  | 5 => some ⟨[.dat (.sl .bool), .nat], [(0, .keep), (3, .keep), (12, .keep), (13, .keep), (15, .keep), (16, .keep), (17, .cnt 1 501)], [(0, .row 4 0)], 1⟩
  | 9 => some ⟨[.dat (.sl .bool), .nat], [(0, .keep), (3, .keep), (4, .keep), (12, .keep), (13, .keep), (15, .keep), (16, .keep), (17, .keep), (34, .keep), (35, .keep), (36, .cnt 1 901)], [(0, .row 4 0)], 2⟩
  | _ => none
def pr185 : Nat → List Gh := fun _ => []
def po185 : Nat → List Gh
  | 15 => [.fz 2]
  | _ => []
def ph185 (_ : Nat) : Nat → Option (CQ (nEs [(80, 0), (81, 0), (88, 1), (89, 1), (110, 2), (111, 2)] [2, 2, 5])) := fun _ => none
theorem h185 (fu : Nat) : ∀ f q, ph185 fu f = some q → SoundC Tryz.prog f q := fun _ _ h => by cases h
noncomputable def cx185 (fu : Nat) : Cx (nEs [(80, 0), (81, 0), (88, 1), (89, 1), (110, 2), (111, 2)] [2, 2, 5]) := ⟨Tryz.prog, ph185 fu, la185, fun _ => none, pr185, po185, 0, 58⟩
noncomputable def Q185 (fu : Nat) : FQ (nEs [(80, 0), (81, 0), (88, 1), (89, 1), (110, 2), (111, 2)] [2, 2, 5]) := ⟨[(.sl (.st (.pr .bool (.sl (.st (.pr (.int .u8) (.pr (.int .u8) (.int .i64))))))))], [(.sl .bool)], fden (cx185 fu) fu Tryz.f255 [(.sl (.st (.pr .bool (.sl (.st (.pr (.int .u8) (.pr (.int .u8) (.int .i64))))))))] [(.sl .bool)]⟩
theorem zs185 (fu : Nat) : SoundQ Tryz.prog 255 (Q185 fu) := fden_ok (cx := cx185 fu) (h185 fu) follows ent255 Tryz.func255 rfl rfl
def la186 : Nat → Option Pat
  | 4 => some ⟨[.dat (.sl (.int .i64)), .dat (.sl (.st (.pr .bool (.sl (.st (.pr (.int .u8) (.pr (.int .u8) (.int .i64)))))))), .nat], [(0, .keep), (3, .hdr 0), (4, .hdr 1), (5, .cnt 2 402)], [(0, .row 3 0), (1, .row 216 1)], 2⟩
  | 8 => some ⟨[.dat (.sl (.int .i64)), .dat (.sl (.st (.pr (.int .u8) (.pr (.int .u8) (.int .i64))))), .nat], [(0, .keep), (3, .hdr 0), (4, .keep), (5, .keep), (6, .keep), (33, .keep), (34, .keep), (35, .cnt 2 802)], [(2, .blk 216 [(1, .keep), (1, .hdr 3)]), (1, .c 0), (0, .row 3 0), (3, .row 213 1)], 4⟩
  | 11 => some ⟨[.dat (.int .i64)], [(0, .keep), (3, .keep), (4, .keep), (5, .keep), (6, .keep), (8, .keep), (9, .v 0 (.int .i64)), (33, .keep), (34, .keep), (35, .keep)], [(4, .c 0), (2, .c 0), (3, .c 0), (1, .c 0), (0, .c 0)], 5⟩
  | _ => none
def pr186 : Nat → List Gh := fun _ => []
def po186 : Nat → List Gh
  | 3 => [.own 4 216 (.st (.pr .bool (.sl (.st (.pr (.int .u8) (.pr (.int .u8) (.int .i64)))))))]
  | 7 => [.ownb 6 1 213 (.st (.pr (.int .u8) (.pr (.int .u8) (.int .i64))))]
  | 18 => [.fz 2]
  | _ => []
def ph186 (_ : Nat) : Nat → Option (CQ (nEs [(80, 0), (81, 0), (88, 1), (89, 1), (110, 2), (111, 2)] [2, 2, 5])) := fun _ => none
theorem h186 (fu : Nat) : ∀ f q, ph186 fu f = some q → SoundC Tryz.prog f q := fun _ _ h => by cases h
noncomputable def cx186 (fu : Nat) : Cx (nEs [(80, 0), (81, 0), (88, 1), (89, 1), (110, 2), (111, 2)] [2, 2, 5]) := ⟨Tryz.prog, ph186 fu, la186, fun _ => none, pr186, po186, 0, 80⟩
noncomputable def Q186 (fu : Nat) : FQ (nEs [(80, 0), (81, 0), (88, 1), (89, 1), (110, 2), (111, 2)] [2, 2, 5]) := ⟨[(.sl (.st (.pr .bool (.sl (.st (.pr (.int .u8) (.pr (.int .u8) (.int .i64))))))))], [(.sl (.st (.pr .bool (.sl (.st (.pr (.int .u8) (.pr (.int .u8) (.int .i64))))))))], fden (cx186 fu) fu Tryz.f257 [(.sl (.st (.pr .bool (.sl (.st (.pr (.int .u8) (.pr (.int .u8) (.int .i64))))))))] [(.sl (.st (.pr .bool (.sl (.st (.pr (.int .u8) (.pr (.int .u8) (.int .i64))))))))]⟩
theorem zs186 (fu : Nat) : SoundQ Tryz.prog 257 (Q186 fu) := fden_ok (cx := cx186 fu) (h186 fu) follows ent257 Tryz.func257 rfl rfl
def la187 : Nat → Option Pat
  | 4 => some ⟨[.dat (.sl (.st (.pr .bool (.sl (.st (.pr (.int .u8) (.pr (.int .u8) (.int .i64)))))))), .nat], [(3, .keep), (4, .hdr 0), (12, .keep), (13, .keep), (14, .cnt 1 401)], [(0, .row 216 0)], 1⟩
  | 8 => some ⟨[.dat (.sl (.st (.pr (.int .u8) (.pr (.int .u8) (.int .i64))))), .nat], [(3, .keep), (4, .keep), (7, .keep), (12, .keep), (13, .keep), (14, .keep), (22, .keep), (23, .keep), (24, .cnt 1 801)], [(2, .blk 216 [(1, .keep), (1, .hdr 3)]), (0, .c 0), (3, .row 213 0)], 4⟩
  | _ => none
def pr187 : Nat → List Gh := fun _ => []
def po187 : Nat → List Gh
  | 3 => [.own 4 216 (.st (.pr .bool (.sl (.st (.pr (.int .u8) (.pr (.int .u8) (.int .i64)))))))]
  | 7 => [.ownb 7 1 213 (.st (.pr (.int .u8) (.pr (.int .u8) (.int .i64))))]
  | 15 => [.fz 2]
  | _ => []
noncomputable def ph187 (fu : Nat) : Nat → Option (CQ (nEs [(80, 0), (81, 0), (88, 1), (89, 1), (110, 2), (111, 2)] [2, 2, 5]))
  | 255 => some (.dat (Q185 fu))
  | _ => none
theorem h187 (fu : Nat) : ∀ f q, ph187 fu f = some q → SoundC Tryz.prog f q := by
  intro f q h
  unfold ph187 at h
  split at h
  · cases h; exact zs185 fu
  · cases h
noncomputable def cx187 (fu : Nat) : Cx (nEs [(80, 0), (81, 0), (88, 1), (89, 1), (110, 2), (111, 2)] [2, 2, 5]) := ⟨Tryz.prog, ph187 fu, la187, fun _ => none, pr187, po187, 0, 46⟩
noncomputable def Q187 (fu : Nat) : FQ (nEs [(80, 0), (81, 0), (88, 1), (89, 1), (110, 2), (111, 2)] [2, 2, 5]) := ⟨[(.sl (.st (.pr .bool (.sl (.st (.pr (.int .u8) (.pr (.int .u8) (.int .i64))))))))], [(.sl (.st (.pr .bool (.sl (.st (.pr (.int .u8) (.pr (.int .u8) (.int .i64))))))))], fden (cx187 fu) fu Tryz.f256 [(.sl (.st (.pr .bool (.sl (.st (.pr (.int .u8) (.pr (.int .u8) (.int .i64))))))))] [(.sl (.st (.pr .bool (.sl (.st (.pr (.int .u8) (.pr (.int .u8) (.int .i64))))))))]⟩
theorem zs187 (fu : Nat) : SoundQ Tryz.prog 256 (Q187 fu) := fden_ok (cx := cx187 fu) (h187 fu) follows ent256 Tryz.func256 rfl rfl
def la188 : Nat → Option Pat
  | 4 => some ⟨[.dat (.ar 257 .bool), .nat], [(3, .keep), (11, .keep), (12, .keep), (13, .cnt 1 401)], [(0, .blk 306 [(257, .v 0 (.ar 257 .bool))])], 1⟩
  | 7 => some ⟨[.dat (.ar 257 .bool), .nat], [(3, .keep), (11, .keep), (12, .keep), (13, .keep), (18, .keep), (19, .keep), (20, .cnt 1 701)], [(0, .blk 306 [(257, .v 0 (.ar 257 .bool))])], 2⟩
  | 15 => some ⟨[.dat (.sl (.int .i64)), .dat (.int .i64)], [(3, .keep), (8, .hdr 1), (9, .v 1 (.int .i64))], [(0, .c 0), (1, .row 3 0)], 2⟩
  | _ => none
def pr188 : Nat → List Gh := fun _ => []
def po188 : Nat → List Gh
  | 14 => [.own 8 3 (.int .i64)]
  | 19 => [.fz 2]
  | _ => []
def ph188 (_ : Nat) : Nat → Option (CQ (nEs [(80, 0), (81, 0), (88, 1), (89, 1), (110, 2), (111, 2)] [2, 2, 5])) := fun _ => none
theorem h188 (fu : Nat) : ∀ f q, ph188 fu f = some q → SoundC Tryz.prog f q := fun _ _ h => by cases h
noncomputable def cx188 (fu : Nat) : Cx (nEs [(80, 0), (81, 0), (88, 1), (89, 1), (110, 2), (111, 2)] [2, 2, 5]) := ⟨Tryz.prog, ph188 fu, la188, fun _ => none, pr188, po188, 0, 47⟩
noncomputable def Q188 (fu : Nat) : FQ (nEs [(80, 0), (81, 0), (88, 1), (89, 1), (110, 2), (111, 2)] [2, 2, 5]) := ⟨[(.sl (.st (.pr .bool (.sl (.st (.pr (.int .u8) (.pr (.int .u8) (.int .i64))))))))], [(.sl (.int .i64))], fden (cx188 fu) fu Tryz.f258 [(.sl (.st (.pr .bool (.sl (.st (.pr (.int .u8) (.pr (.int .u8) (.int .i64))))))))] [(.sl (.int .i64))]⟩
theorem zs188 (fu : Nat) : SoundQ Tryz.prog 258 (Q188 fu) := fden_ok (cx := cx188 fu) (h188 fu) follows ent258 Tryz.func258 rfl rfl
def la189 : Nat → Option Pat
  | 4 => some ⟨[.nat], [(2, .keep), (15, .keep), (16, .keep), (17, .cnt 0 400)], [], 0⟩
  | _ => none
def pr189 : Nat → List Gh := fun _ => []
def po189 : Nat → List Gh := fun _ => []
def ph189 (_ : Nat) : Nat → Option (CQ (nEs [(80, 0), (81, 0), (88, 1), (89, 1), (110, 2), (111, 2)] [2, 2, 5])) := fun _ => none
theorem h189 (fu : Nat) : ∀ f q, ph189 fu f = some q → SoundC Tryz.prog f q := fun _ _ h => by cases h
noncomputable def cx189 (fu : Nat) : Cx (nEs [(80, 0), (81, 0), (88, 1), (89, 1), (110, 2), (111, 2)] [2, 2, 5]) := ⟨Tryz.prog, ph189 fu, la189, fun _ => none, pr189, po189, 0, 34⟩
noncomputable def Q189 (fu : Nat) : FQ (nEs [(80, 0), (81, 0), (88, 1), (89, 1), (110, 2), (111, 2)] [2, 2, 5]) := ⟨[(.sl (.st (.pr .bool (.sl (.st (.pr (.int .u8) (.pr (.int .u8) (.int .i64)))))))), (.int .i64), (.int .u8)], [(.int .i64)], fden (cx189 fu) fu Tryz.f183 [(.sl (.st (.pr .bool (.sl (.st (.pr (.int .u8) (.pr (.int .u8) (.int .i64)))))))), (.int .i64), (.int .u8)] [(.int .i64)]⟩
theorem zs189 (fu : Nat) : SoundQ Tryz.prog 183 (Q189 fu) := fden_ok (cx := cx189 fu) (h189 fu) follows ent183 Tryz.func183 rfl rfl
def la190 : Nat → Option Pat
  | 4 => some ⟨[.nat], [(0, .keep), (1, .keep), (12, .keep), (13, .cnt 0 400)], [], 0⟩
  | _ => none
def pr190 : Nat → List Gh := fun _ => []
def po190 : Nat → List Gh := fun _ => []
def ph190 (_ : Nat) : Nat → Option (CQ (nEs [(80, 0), (81, 0), (88, 1), (89, 1), (110, 2), (111, 2)] [2, 2, 5])) := fun _ => none
theorem h190 (fu : Nat) : ∀ f q, ph190 fu f = some q → SoundC Tryz.prog f q := fun _ _ h => by cases h
noncomputable def cx190 (fu : Nat) : Cx (nEs [(80, 0), (81, 0), (88, 1), (89, 1), (110, 2), (111, 2)] [2, 2, 5]) := ⟨Tryz.prog, ph190 fu, la190, fun _ => none, pr190, po190, 0, 26⟩
noncomputable def Q190 (fu : Nat) : FQ (nEs [(80, 0), (81, 0), (88, 1), (89, 1), (110, 2), (111, 2)] [2, 2, 5]) := ⟨[(.sl (.int .i64)), (.sl (.int .i64))], [.bool], fden (cx190 fu) fu Tryz.f379 [(.sl (.int .i64)), (.sl (.int .i64))] [.bool]⟩
theorem zs190 (fu : Nat) : SoundQ Tryz.prog 379 (Q190 fu) := fden_ok (cx := cx190 fu) (h190 fu) follows ent379 Tryz.func379 rfl rfl
def la191 : Nat → Option Pat
  | 2 => some ⟨[.nat], [(0, .keep), (1, .keep), (7, .keep), (8, .cnt 0 200)], [], 0⟩
  | _ => none
def pr191 : Nat → List Gh := fun _ => []
def po191 : Nat → List Gh := fun _ => []
noncomputable def ph191 (fu : Nat) : Nat → Option (CQ (nEs [(80, 0), (81, 0), (88, 1), (89, 1), (110, 2), (111, 2)] [2, 2, 5]))
  | 379 => some (.dat (Q190 fu))
  | _ => none
theorem h191 (fu : Nat) : ∀ f q, ph191 fu f = some q → SoundC Tryz.prog f q := by
  intro f q h
  unfold ph191 at h
  split at h
  · cases h; exact zs190 fu
  · cases h
noncomputable def cx191 (fu : Nat) : Cx (nEs [(80, 0), (81, 0), (88, 1), (89, 1), (110, 2), (111, 2)] [2, 2, 5]) := ⟨Tryz.prog, ph191 fu, la191, fun _ => none, pr191, po191, 0, 19⟩
noncomputable def Q191 (fu : Nat) : FQ (nEs [(80, 0), (81, 0), (88, 1), (89, 1), (110, 2), (111, 2)] [2, 2, 5]) := ⟨[(.sl (.sl (.int .i64))), (.sl (.int .i64))], [(.int .i64)], fden (cx191 fu) fu Tryz.f323 [(.sl (.sl (.int .i64))), (.sl (.int .i64))] [(.int .i64)]⟩
theorem zs191 (fu : Nat) : SoundQ Tryz.prog 323 (Q191 fu) := fden_ok (cx := cx191 fu) (h191 fu) follows ent323 Tryz.func323 rfl rfl
def la192 : Nat → Option Pat
  | 3 => some ⟨[.dat (.sl (.int .i64)), .nat], [(0, .keep), (1, .keep), (5, .keep), (20, .keep), (21, .keep), (22, .cnt 1 301)], [(0, .row 3 0)], 1⟩
  | 10 => some ⟨[.dat (.sl (.int .i64)), .nat, .nat], [(0, .keep), (1, .keep), (5, .hdr 0), (8, .cnt 1 1001), (34, .keep), (35, .cnt 2 1002)], [(0, .row 3 0)], 1⟩
  | 14 => some ⟨[.dat (.sl (.int .i64)), .dat (.sl (.sl (.int .i64))), .nat], [(0, .keep), (1, .keep), (5, .keep), (8, .keep), (9, .hdr 2), (10, .keep), (34, .keep), (35, .keep), (41, .keep), (42, .cnt 2 1402)], [(1, .row 3 0), (0, .c 0), (2, .row 43 1)], 3⟩
  | 18 => some ⟨[.dat (.sl (.int .i64)), .nat], [(0, .keep), (1, .keep), (5, .keep), (8, .keep), (9, .keep), (10, .keep), (11, .keep), (12, .hdr 3), (34, .keep), (35, .keep), (41, .keep), (42, .keep), (50, .keep), (51, .keep), (52, .cnt 1 1801)], [(3, .row 3 0), (1, .c 0), (2, .c 0), (0, .c 0)], 4⟩
  | _ => none
def pr192 : Nat → List Gh
  | 28 => [.fz 12]
  | _ => []
def po192 : Nat → List Gh
  | 13 => [.own 9 43 (.sl (.int .i64))]
  | 35 => [.fz 4]
  | _ => []
noncomputable def ph192 (fu : Nat) : Nat → Option (CQ (nEs [(80, 0), (81, 0), (88, 1), (89, 1), (110, 2), (111, 2)] [2, 2, 5]))
  | 183 => some (.dat (Q189 fu))
  | 323 => some (.dat (Q191 fu))
  | _ => none
theorem h192 (fu : Nat) : ∀ f q, ph192 fu f = some q → SoundC Tryz.prog f q := by
  intro f q h
  unfold ph192 at h
  split at h
  · cases h; exact zs189 fu
  · cases h; exact zs191 fu
  · cases h
noncomputable def cx192 (fu : Nat) : Cx (nEs [(80, 0), (81, 0), (88, 1), (89, 1), (110, 2), (111, 2)] [2, 2, 5]) := ⟨Tryz.prog, ph192 fu, la192, fun _ => none, pr192, po192, 0, 97⟩
noncomputable def Q192 (fu : Nat) : FQ (nEs [(80, 0), (81, 0), (88, 1), (89, 1), (110, 2), (111, 2)] [2, 2, 5]) := ⟨[(.sl (.st (.pr .bool (.sl (.st (.pr (.int .u8) (.pr (.int .u8) (.int .i64)))))))), (.sl (.int .i64))], [(.sl (.int .i64))], fden (cx192 fu) fu Tryz.f259 [(.sl (.st (.pr .bool (.sl (.st (.pr (.int .u8) (.pr (.int .u8) (.int .i64)))))))), (.sl (.int .i64))] [(.sl (.int .i64))]⟩
theorem zs192 (fu : Nat) : SoundQ Tryz.prog 259 (Q192 fu) := fden_ok (cx := cx192 fu) (h192 fu) follows ent259 Tryz.func259 rfl rfl
def la193 : Nat → Option Pat
  | 2 => some ⟨[.nat], [(0, .keep), (1, .keep), (2, .keep), (9, .keep), (10, .keep), (11, .cnt 0 200)], [], 0⟩
  | _ => none
def pr193 : Nat → List Gh := fun _ => []
def po193 : Nat → List Gh := fun _ => []
def ph193 (_ : Nat) : Nat → Option (CQ (nEs [(80, 0), (81, 0), (88, 1), (89, 1), (110, 2), (111, 2)] [2, 2, 5])) := fun _ => none
theorem h193 (fu : Nat) : ∀ f q, ph193 fu f = some q → SoundC Tryz.prog f q := fun _ _ h => by cases h
noncomputable def cx193 (fu : Nat) : Cx (nEs [(80, 0), (81, 0), (88, 1), (89, 1), (110, 2), (111, 2)] [2, 2, 5]) := ⟨Tryz.prog, ph193 fu, la193, fun _ => none, pr193, po193, 0, 29⟩
noncomputable def Q193 (fu : Nat) : FQ (nEs [(80, 0), (81, 0), (88, 1), (89, 1), (110, 2), (111, 2)] [2, 2, 5]) := ⟨[(.sl (.int .i64)), (.sl (.int .i64)), (.int .i64)], [(.int .i64)], fden (cx193 fu) fu Tryz.f260 [(.sl (.int .i64)), (.sl (.int .i64)), (.int .i64)] [(.int .i64)]⟩
theorem zs193 (fu : Nat) : SoundQ Tryz.prog 260 (Q193 fu) := fden_ok (cx := cx193 fu) (h193 fu) follows ent260 Tryz.func260 rfl rfl
def la194 : Nat → Option Pat
  | 11 => some ⟨[.dat (.sl (.int .i64)), .dat (.sl (.st (.pr .bool (.sl (.st (.pr (.int .u8) (.pr (.int .u8) (.int .i64)))))))), .nat], [(2, .keep), (4, .keep), (5, .keep), (6, .keep), (7, .hdr 1), (8, .keep), (9, .cnt 2 1102)], [(2, .blk 28 [(1, .hdr 3)]), (1, .row 3 0), (0, .c 0), (3, .row 216 1)], 4⟩
  | 15 => some ⟨[.dat (.sl (.int .i64)), .dat (.sl (.st (.pr (.int .u8) (.pr (.int .u8) (.int .i64))))), .nat], [(2, .keep), (4, .keep), (5, .keep), (6, .keep), (7, .hdr 1), (8, .keep), (9, .keep), (10, .keep), (56, .keep), (57, .keep), (58, .cnt 2 1502)], [(4, .blk 216 [(1, .keep), (1, .hdr 5)]), (2, .c 0), (3, .c 0), (1, .row 3 0), (0, .c 0), (5, .row 213 1)], 6⟩
  | _ => none
def pr194 : Nat → List Gh := fun _ => []
def po194 : Nat → List Gh
  | 10 => [.ownb 8 0 216 (.st (.pr .bool (.sl (.st (.pr (.int .u8) (.pr (.int .u8) (.int .i64)))))))]
  | 14 => [.ownb 10 1 213 (.st (.pr (.int .u8) (.pr (.int .u8) (.int .i64))))]
  | 31 => [.fzb 2 0]
  | _ => []
noncomputable def ph194 (fu : Nat) : Nat → Option (CQ (nEs [(80, 0), (81, 0), (88, 1), (89, 1), (110, 2), (111, 2)] [2, 2, 5]))
  | 183 => some (.dat (Q189 fu))
  | 254 => some (.dat (Q184 fu))
  | 255 => some (.dat (Q185 fu))
  | 256 => some (.dat (Q187 fu))
  | 257 => some (.dat (Q186 fu))
  | 258 => some (.dat (Q188 fu))
  | 259 => some (.dat (Q192 fu))
  | 260 => some (.dat (Q193 fu))
  | _ => none
theorem h194 (fu : Nat) : ∀ f q, ph194 fu f = some q → SoundC Tryz.prog f q := by
  intro f q h
  unfold ph194 at h
  split at h
  · cases h; exact zs189 fu
  · cases h; exact zs184 fu
  · cases h; exact zs185 fu
  · cases h; exact zs187 fu
  · cases h; exact zs186 fu
  · cases h; exact zs188 fu
  · cases h; exact zs192 fu
  · cases h; exact zs193 fu
  · cases h
noncomputable def cx194 (fu : Nat) : Cx (nEs [(80, 0), (81, 0), (88, 1), (89, 1), (110, 2), (111, 2)] [2, 2, 5]) := ⟨Tryz.prog, ph194 fu, la194, fun _ => none, pr194, po194, 0, 150⟩
noncomputable def Q194 (fu : Nat) : FQ (nEs [(80, 0), (81, 0), (88, 1), (89, 1), (110, 2), (111, 2)] [2, 2, 5]) := ⟨[(.sl (.st (.pr .bool (.sl (.st (.pr (.int .u8) (.pr (.int .u8) (.int .i64))))))))], [(.st (.sl (.st (.pr .bool (.sl (.st (.pr (.int .u8) (.pr (.int .u8) (.int .i64))))))))), (.int .i64)], fden (cx194 fu) fu Tryz.f180 [(.sl (.st (.pr .bool (.sl (.st (.pr (.int .u8) (.pr (.int .u8) (.int .i64))))))))] [(.st (.sl (.st (.pr .bool (.sl (.st (.pr (.int .u8) (.pr (.int .u8) (.int .i64))))))))), (.int .i64)]⟩
theorem zs194 (fu : Nat) : SoundQ Tryz.prog 180 (Q194 fu) := fden_ok (cx := cx194 fu) (h194 fu) follows ent180 Tryz.func180 rfl rfl
def la195 : Nat → Option Pat
  | 4 => some ⟨[.nat], [(2, .keep), (3, .keep), (18, .keep), (19, .cnt 0 400)], [(1, .c 0), (0, .c 0)], 2⟩
  | 10 => some ⟨[.nat], [(2, .keep), (3, .keep), (6, .keep), (7, .keep), (18, .keep), (19, .keep), (48, .keep), (49, .cnt 0 1000)], [(3, .c 0), (2, .c 0), (1, .c 0), (0, .c 0)], 4⟩
  | _ => none
def pr195 : Nat → List Gh := fun _ => []
def po195 : Nat → List Gh := fun _ => []
def ph195 (_ : Nat) : Nat → Option (CQ (nEs [(80, 0), (81, 0), (88, 1), (89, 1), (110, 2), (111, 2)] [2, 2, 5])) := fun _ => none
theorem h195 (fu : Nat) : ∀ f q, ph195 fu f = some q → SoundC Tryz.prog f q := fun _ _ h => by cases h
noncomputable def cx195 (fu : Nat) : Cx (nEs [(80, 0), (81, 0), (88, 1), (89, 1), (110, 2), (111, 2)] [2, 2, 5]) := ⟨Tryz.prog, ph195 fu, la195, fun _ => none, pr195, po195, 0, 65⟩
noncomputable def Q195 (fu : Nat) : FQ (nEs [(80, 0), (81, 0), (88, 1), (89, 1), (110, 2), (111, 2)] [2, 2, 5]) := ⟨[(.st (.sl (.st (.pr .bool (.sl (.st (.pr (.int .u8) (.pr (.int .u8) (.int .i64))))))))), (.st (.sl (.st (.pr .bool (.sl (.st (.pr (.int .u8) (.pr (.int .u8) (.int .i64)))))))))], [.bool], fden (cx195 fu) fu Tryz.f181 [(.st (.sl (.st (.pr .bool (.sl (.st (.pr (.int .u8) (.pr (.int .u8) (.int .i64))))))))), (.st (.sl (.st (.pr .bool (.sl (.st (.pr (.int .u8) (.pr (.int .u8) (.int .i64)))))))))] [.bool]⟩
theorem zs195 (fu : Nat) : SoundQ Tryz.prog 181 (Q195 fu) := fden_ok (cx := cx195 fu) (h195 fu) follows ent181 Tryz.func181 rfl rfl
def la196 : Nat → Option Pat := fun _ => none
def pr196 : Nat → List Gh := fun _ => []
def po196 : Nat → List Gh := fun _ => []
noncomputable def ph196 (fu : Nat) : Nat → Option (CQ (nEs [(80, 0), (81, 0), (88, 1), (89, 1), (110, 2), (111, 2)] [2, 2, 5]))
  | 180 => some (.dat (Q194 fu))
  | 181 => some (.dat (Q195 fu))
  | _ => none
theorem h196 (fu : Nat) : ∀ f q, ph196 fu f = some q → SoundC Tryz.prog f q := by
  intro f q h
  unfold ph196 at h
  split at h
  · cases h; exact zs194 fu
  · cases h; exact zs195 fu
  · cases h
noncomputable def cx196 (fu : Nat) : Cx (nEs [(80, 0), (81, 0), (88, 1), (89, 1), (110, 2), (111, 2)] [2, 2, 5]) := ⟨Tryz.prog, ph196 fu, la196, fun _ => none, pr196, po196, 0, 18⟩
noncomputable def Q196 (fu : Nat) : FQ (nEs [(80, 0), (81, 0), (88, 1), (89, 1), (110, 2), (111, 2)] [2, 2, 5]) := ⟨[(.st (.sl (.st (.pr .bool (.sl (.st (.pr (.int .u8) (.pr (.int .u8) (.int .i64)))))))))], [.bool], fden (cx196 fu) fu Tryz.f115 [(.st (.sl (.st (.pr .bool (.sl (.st (.pr (.int .u8) (.pr (.int .u8) (.int .i64)))))))))] [.bool]⟩
theorem zs196 (fu : Nat) : SoundQ Tryz.prog 115 (Q196 fu) := fden_ok (cx := cx196 fu) (h196 fu) follows ent115 Tryz.func115 rfl rfl
def la197 : Nat → Option Pat := fun _ => none
def pr197 : Nat → List Gh := fun _ => []
def po197 : Nat → List Gh := fun _ => []
noncomputable def ph197 (fu : Nat) : Nat → Option (CQ (nEs [(80, 0), (81, 0), (88, 1), (89, 1), (110, 2), (111, 2)] [2, 2, 5]))
  | 114 => some (.dat (Q183 fu))
  | 115 => some (.dat (Q196 fu))
  | _ => none
theorem h197 (fu : Nat) : ∀ f q, ph197 fu f = some q → SoundC Tryz.prog f q := by
  intro f q h
  unfold ph197 at h
  split at h
  · cases h; exact zs183 fu
  · cases h; exact zs196 fu
  · cases h
noncomputable def cx197 (fu : Nat) : Cx (nEs [(80, 0), (81, 0), (88, 1), (89, 1), (110, 2), (111, 2)] [2, 2, 5]) := ⟨Tryz.prog, ph197 fu, la197, fun _ => none, pr197, po197, 0, 11⟩
noncomputable def Q197 (fu : Nat) : FQ (nEs [(80, 0), (81, 0), (88, 1), (89, 1), (110, 2), (111, 2)] [2, 2, 5]) := ⟨[(.st (.pr .bool (.pr .bool (.pr .bool (.pr (.st (.pr (.sl (.st (.pr (.int .i64) (.int .i64)))) (.sl (.st (.pr (.int .i64) (.int .i64)))))) (.st (.sl (.st (.pr .bool (.sl (.st (.pr (.int .u8) (.pr (.int .u8) (.int .i64))))))))))))))], [.bool], fden (cx197 fu) fu Tryz.f77 [(.st (.pr .bool (.pr .bool (.pr .bool (.pr (.st (.pr (.sl (.st (.pr (.int .i64) (.int .i64)))) (.sl (.st (.pr (.int .i64) (.int .i64)))))) (.st (.sl (.st (.pr .bool (.sl (.st (.pr (.int .u8) (.pr (.int .u8) (.int .i64))))))))))))))] [.bool]⟩
theorem zs197 (fu : Nat) : SoundQ Tryz.prog 77 (Q197 fu) := fden_ok (cx := cx197 fu) (h197 fu) follows ent77 Tryz.func77 rfl rfl
def la198 : Nat → Option Pat := fun _ => none
def pr198 : Nat → List Gh := fun _ => []
def po198 : Nat → List Gh := fun _ => []
def ph198 (_ : Nat) : Nat → Option (CQ (nEs [(80, 0), (81, 0), (88, 1), (89, 1), (110, 2), (111, 2)] [2, 2, 5])) := fun _ => none
theorem h198 (fu : Nat) : ∀ f q, ph198 fu f = some q → SoundC Tryz.prog f q := fun _ _ h => by cases h
noncomputable def cx198 (fu : Nat) : Cx (nEs [(80, 0), (81, 0), (88, 1), (89, 1), (110, 2), (111, 2)] [2, 2, 5]) := ⟨Tryz.prog, ph198 fu, la198, fun _ => none, pr198, po198, 0, 12⟩
noncomputable def Q198 (fu : Nat) : FQ (nEs [(80, 0), (81, 0), (88, 1), (89, 1), (110, 2), (111, 2)] [2, 2, 5]) := ⟨[(.nm 0)], [(.sl (.st (.pr (.st (.pr .bool (.pr (.st (.pr .bool (.pr .bool (.pr .bool (.pr (.st (.pr (.sl (.st (.pr (.int .i64) (.int .i64)))) (.sl (.st (.pr (.int .i64) (.int .i64)))))) (.st (.sl (.st (.pr .bool (.sl (.st (.pr (.int .u8) (.pr (.int .u8) (.int .i64)))))))))))))) (.pr (.sl (.nm 0)) (.sl (.nm 1)))))) (.st (.pr .bool (.pr (.st (.pr .bool (.pr .bool (.pr .bool (.pr (.st (.pr (.sl (.st (.pr (.int .i64) (.int .i64)))) (.sl (.st (.pr (.int .i64) (.int .i64)))))) (.st (.sl (.st (.pr .bool (.sl (.st (.pr (.int .u8) (.pr (.int .u8) (.int .i64)))))))))))))) (.pr (.sl (.nm 0)) (.sl (.nm 1)))))))))], fden (cx198 fu) fu Tryz.f118 [(.nm 0)] [(.sl (.st (.pr (.st (.pr .bool (.pr (.st (.pr .bool (.pr .bool (.pr .bool (.pr (.st (.pr (.sl (.st (.pr (.int .i64) (.int .i64)))) (.sl (.st (.pr (.int .i64) (.int .i64)))))) (.st (.sl (.st (.pr .bool (.sl (.st (.pr (.int .u8) (.pr (.int .u8) (.int .i64)))))))))))))) (.pr (.sl (.nm 0)) (.sl (.nm 1)))))) (.st (.pr .bool (.pr (.st (.pr .bool (.pr .bool (.pr .bool (.pr (.st (.pr (.sl (.st (.pr (.int .i64) (.int .i64)))) (.sl (.st (.pr (.int .i64) (.int .i64)))))) (.st (.sl (.st (.pr .bool (.sl (.st (.pr (.int .u8) (.pr (.int .u8) (.int .i64)))))))))))))) (.pr (.sl (.nm 0)) (.sl (.nm 1)))))))))]⟩
theorem zs198 (fu : Nat) : SoundQ Tryz.prog 118 (Q198 fu) := fden_ok (cx := cx198 fu) (h198 fu) follows ent118 Tryz.func118 rfl rfl
def la199 : Nat → Option Pat
  | 3 => some ⟨[.nat], [(1, .keep), (3, .keep), (4, .cnt 0 300)], [(0, .c 0)], 1⟩
  | _ => none
def pr199 : Nat → List Gh := fun _ => []
def po199 : Nat → List Gh := fun _ => []
def ph199 (_ : Nat) : Nat → Option (CQ (nEs [(80, 0), (81, 0), (88, 1), (89, 1), (110, 2), (111, 2)] [2, 2, 5])) := fun _ => none
theorem h199 (fu : Nat) : ∀ f q, ph199 fu f = some q → SoundC Tryz.prog f q := fun _ _ h => by cases h
noncomputable def cx199 (fu : Nat) : Cx (nEs [(80, 0), (81, 0), (88, 1), (89, 1), (110, 2), (111, 2)] [2, 2, 5]) := ⟨Tryz.prog, ph199 fu, la199, fun _ => none, pr199, po199, 0, 39⟩
noncomputable def Q199 (fu : Nat) : FQ (nEs [(80, 0), (81, 0), (88, 1), (89, 1), (110, 2), (111, 2)] [2, 2, 5]) := ⟨[(.nm 1)], [(.sl (.st (.pr (.st (.pr .bool (.pr (.st (.pr .bool (.pr .bool (.pr .bool (.pr (.st (.pr (.sl (.st (.pr (.int .i64) (.int .i64)))) (.sl (.st (.pr (.int .i64) (.int .i64)))))) (.st (.sl (.st (.pr .bool (.sl (.st (.pr (.int .u8) (.pr (.int .u8) (.int .i64)))))))))))))) (.pr (.sl (.nm 0)) (.sl (.nm 1)))))) (.st (.pr .bool (.pr (.st (.pr .bool (.pr .bool (.pr .bool (.pr (.st (.pr (.sl (.st (.pr (.int .i64) (.int .i64)))) (.sl (.st (.pr (.int .i64) (.int .i64)))))) (.st (.sl (.st (.pr .bool (.sl (.st (.pr (.int .u8) (.pr (.int .u8) (.int .i64)))))))))))))) (.pr (.sl (.nm 0)) (.sl (.nm 1)))))))))], fden (cx199 fu) fu Tryz.f119 [(.nm 1)] [(.sl (.st (.pr (.st (.pr .bool (.pr (.st (.pr .bool (.pr .bool (.pr .bool (.pr (.st (.pr (.sl (.st (.pr (.int .i64) (.int .i64)))) (.sl (.st (.pr (.int .i64) (.int .i64)))))) (.st (.sl (.st (.pr .bool (.sl (.st (.pr (.int .u8) (.pr (.int .u8) (.int .i64)))))))))))))) (.pr (.sl (.nm 0)) (.sl (.nm 1)))))) (.st (.pr .bool (.pr (.st (.pr .bool (.pr .bool (.pr .bool (.pr (.st (.pr (.sl (.st (.pr (.int .i64) (.int .i64)))) (.sl (.st (.pr (.int .i64) (.int .i64)))))) (.st (.sl (.st (.pr .bool (.sl (.st (.pr (.int .u8) (.pr (.int .u8) (.int .i64)))))))))))))) (.pr (.sl (.nm 0)) (.sl (.nm 1)))))))))]⟩
theorem zs199 (fu : Nat) : SoundQ Tryz.prog 119 (Q199 fu) := fden_ok (cx := cx199 fu) (h199 fu) follows ent119 Tryz.func119 rfl rfl
def la200 : Nat → Option Pat
  | 3 => some ⟨[.dat (.sl (.st (.pr (.st (.pr .bool (.pr (.st (.pr .bool (.pr .bool (.pr .bool (.pr (.st (.pr (.sl (.st (.pr (.int .i64) (.int .i64)))) (.sl (.st (.pr (.int .i64) (.int .i64)))))) (.st (.sl (.st (.pr .bool (.sl (.st (.pr (.int .u8) (.pr (.int .u8) (.int .i64)))))))))))))) (.pr (.sl (.nm 0)) (.sl (.nm 1)))))) (.st (.pr .bool (.pr (.st (.pr .bool (.pr .bool (.pr .bool (.pr (.st (.pr (.sl (.st (.pr (.int .i64) (.int .i64)))) (.sl (.st (.pr (.int .i64) (.int .i64)))))) (.st (.sl (.st (.pr .bool (.sl (.st (.pr (.int .u8) (.pr (.int .u8) (.int .i64)))))))))))))) (.pr (.sl (.nm 0)) (.sl (.nm 1))))))))), .nat], [(1, .keep), (3, .hdr 1), (4, .cnt 1 301)], [(0, .c 0), (1, .row 36 0)], 2⟩
  | 7 => some ⟨[.dat (.sl (.st (.pr (.st (.pr .bool (.pr (.st (.pr .bool (.pr .bool (.pr .bool (.pr (.st (.pr (.sl (.st (.pr (.int .i64) (.int .i64)))) (.sl (.st (.pr (.int .i64) (.int .i64)))))) (.st (.sl (.st (.pr .bool (.sl (.st (.pr (.int .u8) (.pr (.int .u8) (.int .i64)))))))))))))) (.pr (.sl (.nm 0)) (.sl (.nm 1)))))) (.st (.pr .bool (.pr (.st (.pr .bool (.pr .bool (.pr .bool (.pr (.st (.pr (.sl (.st (.pr (.int .i64) (.int .i64)))) (.sl (.st (.pr (.int .i64) (.int .i64)))))) (.st (.sl (.st (.pr .bool (.sl (.st (.pr (.int .u8) (.pr (.int .u8) (.int .i64)))))))))))))) (.pr (.sl (.nm 0)) (.sl (.nm 1))))))))), .nat], [(1, .keep), (3, .hdr 1), (5, .cnt 1 701)], [(1, .row 36 0), (0, .c 0)], 2⟩
  | _ => none
def pr200 : Nat → List Gh := fun _ => []
def po200 : Nat → List Gh
  | 2 => [.own 3 36 (.st (.pr (.st (.pr .bool (.pr (.st (.pr .bool (.pr .bool (.pr .bool (.pr (.st (.pr (.sl (.st (.pr (.int .i64) (.int .i64)))) (.sl (.st (.pr (.int .i64) (.int .i64)))))) (.st (.sl (.st (.pr .bool (.sl (.st (.pr (.int .u8) (.pr (.int .u8) (.int .i64)))))))))))))) (.pr (.sl (.nm 0)) (.sl (.nm 1)))))) (.st (.pr .bool (.pr (.st (.pr .bool (.pr .bool (.pr .bool (.pr (.st (.pr (.sl (.st (.pr (.int .i64) (.int .i64)))) (.sl (.st (.pr (.int .i64) (.int .i64)))))) (.st (.sl (.st (.pr .bool (.sl (.st (.pr (.int .u8) (.pr (.int .u8) (.int .i64)))))))))))))) (.pr (.sl (.nm 0)) (.sl (.nm 1))))))))]
  | 10 => [.fz 2]
  | _ => []
noncomputable def ph200 (fu : Nat) : Nat → Option (CQ (nEs [(80, 0), (81, 0), (88, 1), (89, 1), (110, 2), (111, 2)] [2, 2, 5]))
  | 118 => some (.dat (Q198 fu))
  | 119 => some (.dat (Q199 fu))
  | _ => none
theorem h200 (fu : Nat) : ∀ f q, ph200 fu f = some q → SoundC Tryz.prog f q := by
  intro f q h
  unfold ph200 at h
  split at h
  · cases h; exact zs198 fu
  · cases h; exact zs199 fu
  · cases h
noncomputable def cx200 (fu : Nat) : Cx (nEs [(80, 0), (81, 0), (88, 1), (89, 1), (110, 2), (111, 2)] [2, 2, 5]) := ⟨Tryz.prog, ph200 fu, la200, fun _ => none, pr200, po200, 0, 37⟩
noncomputable def Q200 (fu : Nat) : FQ (nEs [(80, 0), (81, 0), (88, 1), (89, 1), (110, 2), (111, 2)] [2, 2, 5]) := ⟨[(.st (.pr .bool (.pr (.st (.pr .bool (.pr .bool (.pr .bool (.pr (.st (.pr (.sl (.st (.pr (.int .i64) (.int .i64)))) (.sl (.st (.pr (.int .i64) (.int .i64)))))) (.st (.sl (.st (.pr .bool (.sl (.st (.pr (.int .u8) (.pr (.int .u8) (.int .i64)))))))))))))) (.pr (.sl (.nm 0)) (.sl (.nm 1))))))], [(.sl (.st (.pr (.st (.pr .bool (.pr (.st (.pr .bool (.pr .bool (.pr .bool (.pr (.st (.pr (.sl (.st (.pr (.int .i64) (.int .i64)))) (.sl (.st (.pr (.int .i64) (.int .i64)))))) (.st (.sl (.st (.pr .bool (.sl (.st (.pr (.int .u8) (.pr (.int .u8) (.int .i64)))))))))))))) (.pr (.sl (.nm 0)) (.sl (.nm 1)))))) (.st (.pr .bool (.pr (.st (.pr .bool (.pr .bool (.pr .bool (.pr (.st (.pr (.sl (.st (.pr (.int .i64) (.int .i64)))) (.sl (.st (.pr (.int .i64) (.int .i64)))))) (.st (.sl (.st (.pr .bool (.sl (.st (.pr (.int .u8) (.pr (.int .u8) (.int .i64)))))))))))))) (.pr (.sl (.nm 0)) (.sl (.nm 1)))))))))], fden (cx200 fu) fu Tryz.f80 [(.st (.pr .bool (.pr (.st (.pr .bool (.pr .bool (.pr .bool (.pr (.st (.pr (.sl (.st (.pr (.int .i64) (.int .i64)))) (.sl (.st (.pr (.int .i64) (.int .i64)))))) (.st (.sl (.st (.pr .bool (.sl (.st (.pr (.int .u8) (.pr (.int .u8) (.int .i64)))))))))))))) (.pr (.sl (.nm 0)) (.sl (.nm 1))))))] [(.sl (.st (.pr (.st (.pr .bool (.pr (.st (.pr .bool (.pr .bool (.pr .bool (.pr (.st (.pr (.sl (.st (.pr (.int .i64) (.int .i64)))) (.sl (.st (.pr (.int .i64) (.int .i64)))))) (.st (.sl (.st (.pr .bool (.sl (.st (.pr (.int .u8) (.pr (.int .u8) (.int .i64)))))))))))))) (.pr (.sl (.nm 0)) (.sl (.nm 1)))))) (.st (.pr .bool (.pr (.st (.pr .bool (.pr .bool (.pr .bool (.pr (.st (.pr (.sl (.st (.pr (.int .i64) (.int .i64)))) (.sl (.st (.pr (.int .i64) (.int .i64)))))) (.st (.sl (.st (.pr .bool (.sl (.st (.pr (.int .u8) (.pr (.int .u8) (.int .i64)))))))))))))) (.pr (.sl (.nm 0)) (.sl (.nm 1)))))))))]⟩
theorem zs200 (fu : Nat) : SoundQ Tryz.prog 80 (Q200 fu) := fden_ok (cx := cx200 fu) (h200 fu) follows ent80 Tryz.func80 rfl rfl
def la201 : Nat → Option Pat
  | 4 => some ⟨[.nat], [(1, .keep), (2, .keep), (5, .cnt 0 400)], [(0, .c 0)], 1⟩
  | 9 => some ⟨[.nat], [(1, .keep), (2, .keep), (6, .cnt 0 900)], [(0, .c 0)], 1⟩
  | 15 => some ⟨[.nat], [(1, .keep), (7, .keep), (8, .cnt 0 1500)], [], 1⟩
  | _ => none
def pr201 : Nat → List Gh := fun _ => []
def po201 : Nat → List Gh := fun _ => []
noncomputable def ph201 (p : FQ (nEs [(80, 0), (81, 0), (88, 1), (89, 1), (110, 2), (111, 2)] [2, 2, 5])) (fu : Nat) : Nat → Option (CQ (nEs [(80, 0), (81, 0), (88, 1), (89, 1), (110, 2), (111, 2)] [2, 2, 5]))
  | 51 => some (.dat (p))
  | 76 => some (.dat (Q171 fu))
  | 77 => some (.dat (Q197 fu))
  | 80 => some (.dat (Q200 fu))
  | _ => none
theorem h201 (p : FQ (nEs [(80, 0), (81, 0), (88, 1), (89, 1), (110, 2), (111, 2)] [2, 2, 5])) (hp : SoundQ Tryz.prog 51 (p)) (fu : Nat) : ∀ f q, ph201 p fu f = some q → SoundC Tryz.prog f q := by
  intro f q h
  unfold ph201 at h
  split at h
  · cases h; exact hp
  · cases h; exact zs171 fu
  · cases h; exact zs197 fu
  · cases h; exact zs200 fu
  · cases h
noncomputable def cx201 (p : FQ (nEs [(80, 0), (81, 0), (88, 1), (89, 1), (110, 2), (111, 2)] [2, 2, 5])) (fu : Nat) : Cx (nEs [(80, 0), (81, 0), (88, 1), (89, 1), (110, 2), (111, 2)] [2, 2, 5]) := ⟨Tryz.prog, ph201 p fu, la201, fun _ => none, pr201, po201, 0, 93⟩
noncomputable def R201 : Nat → FQ (nEs [(80, 0), (81, 0), (88, 1), (89, 1), (110, 2), (111, 2)] [2, 2, 5])
  | 0 => ⟨[(.st (.pr .bool (.pr (.st (.pr .bool (.pr .bool (.pr .bool (.pr (.st (.pr (.sl (.st (.pr (.int .i64) (.int .i64)))) (.sl (.st (.pr (.int .i64) (.int .i64)))))) (.st (.sl (.st (.pr .bool (.sl (.st (.pr (.int .u8) (.pr (.int .u8) (.int .i64)))))))))))))) (.pr (.sl (.nm 0)) (.sl (.nm 1)))))), (.int .i64)], [.bool], fun _ => none⟩
  | fu + 1 => ⟨[(.st (.pr .bool (.pr (.st (.pr .bool (.pr .bool (.pr .bool (.pr (.st (.pr (.sl (.st (.pr (.int .i64) (.int .i64)))) (.sl (.st (.pr (.int .i64) (.int .i64)))))) (.st (.sl (.st (.pr .bool (.sl (.st (.pr (.int .u8) (.pr (.int .u8) (.int .i64)))))))))))))) (.pr (.sl (.nm 0)) (.sl (.nm 1)))))), (.int .i64)], [.bool], fden (cx201 (R201 fu) fu) fu Tryz.f51 [(.st (.pr .bool (.pr (.st (.pr .bool (.pr .bool (.pr .bool (.pr (.st (.pr (.sl (.st (.pr (.int .i64) (.int .i64)))) (.sl (.st (.pr (.int .i64) (.int .i64)))))) (.st (.sl (.st (.pr .bool (.sl (.st (.pr (.int .u8) (.pr (.int .u8) (.int .i64)))))))))))))) (.pr (.sl (.nm 0)) (.sl (.nm 1)))))), (.int .i64)] [.bool]⟩
theorem r201 : ∀ fu, SoundQ Tryz.prog 51 ((R201 fu))
  | 0 => ⟨ent51, fun _ _ h => by cases h⟩
  | fu + 1 => fden_ok (cx := cx201 (R201 fu) fu) (h201 _ (r201 fu) fu) follows ent51 Tryz.func51 rfl rfl
noncomputable def Q201 (fu : Nat) : FQ (nEs [(80, 0), (81, 0), (88, 1), (89, 1), (110, 2), (111, 2)] [2, 2, 5]) := (R201 fu)
theorem zs201 (fu : Nat) : SoundQ Tryz.prog 51 (Q201 fu) := (r201 fu)
def la202 : Nat → Option Pat := fun _ => none
def pr202 : Nat → List Gh := fun _ => []
def po202 : Nat → List Gh := fun _ => []
noncomputable def ph202 (fu : Nat) : Nat → Option (CQ (nEs [(80, 0), (81, 0), (88, 1), (89, 1), (110, 2), (111, 2)] [2, 2, 5]))
  | 51 => some (.dat (Q201 fu))
  | _ => none
theorem h202 (fu : Nat) : ∀ f q, ph202 fu f = some q → SoundC Tryz.prog f q := by
  intro f q h
  unfold ph202 at h
  split at h
  · cases h; exact zs201 fu
  · cases h
noncomputable def cx202 (fu : Nat) : Cx (nEs [(80, 0), (81, 0), (88, 1), (89, 1), (110, 2), (111, 2)] [2, 2, 5]) := ⟨Tryz.prog, ph202 fu, la202, fun _ => none, pr202, po202, 0, 5⟩
noncomputable def Q202 (fu : Nat) : FQ (nEs [(80, 0), (81, 0), (88, 1), (89, 1), (110, 2), (111, 2)] [2, 2, 5]) := ⟨[(.st (.pr .bool (.pr (.st (.pr .bool (.pr .bool (.pr .bool (.pr (.st (.pr (.sl (.st (.pr (.int .i64) (.int .i64)))) (.sl (.st (.pr (.int .i64) (.int .i64)))))) (.st (.sl (.st (.pr .bool (.sl (.st (.pr (.int .u8) (.pr (.int .u8) (.int .i64)))))))))))))) (.pr (.sl (.nm 0)) (.sl (.nm 1))))))], [.bool], fden (cx202 fu) fu Tryz.f37 [(.st (.pr .bool (.pr (.st (.pr .bool (.pr .bool (.pr .bool (.pr (.st (.pr (.sl (.st (.pr (.int .i64) (.int .i64)))) (.sl (.st (.pr (.int .i64) (.int .i64)))))) (.st (.sl (.st (.pr .bool (.sl (.st (.pr (.int .u8) (.pr (.int .u8) (.int .i64)))))))))))))) (.pr (.sl (.nm 0)) (.sl (.nm 1))))))] [.bool]⟩
theorem zs202 (fu : Nat) : SoundQ Tryz.prog 37 (Q202 fu) := fden_ok (cx := cx202 fu) (h202 fu) follows ent37 Tryz.func37 rfl rfl
def la203 : Nat → Option Pat := fun _ => none
def pr203 : Nat → List Gh := fun _ => []
def po203 : Nat → List Gh := fun _ => []
noncomputable def ph203 (fu : Nat) : Nat → Option (CQ (nEs [(80, 0), (81, 0), (88, 1), (89, 1), (110, 2), (111, 2)] [2, 2, 5]))
  | 37 => some (.dat (Q202 fu))
  | _ => none
theorem h203 (fu : Nat) : ∀ f q, ph203 fu f = some q → SoundC Tryz.prog f q := by
  intro f q h
  unfold ph203 at h
  split at h
  · cases h; exact zs202 fu
  · cases h
noncomputable def cx203 (fu : Nat) : Cx (nEs [(80, 0), (81, 0), (88, 1), (89, 1), (110, 2), (111, 2)] [2, 2, 5]) := ⟨Tryz.prog, ph203 fu, la203, fun _ => none, pr203, po203, 0, 11⟩
noncomputable def Q203 (fu : Nat) : FQ (nEs [(80, 0), (81, 0), (88, 1), (89, 1), (110, 2), (111, 2)] [2, 2, 5]) := ⟨[(.st (.pr (.st (.pr .bool (.pr (.st (.pr .bool (.pr .bool (.pr .bool (.pr (.st (.pr (.sl (.st (.pr (.int .i64) (.int .i64)))) (.sl (.st (.pr (.int .i64) (.int .i64)))))) (.st (.sl (.st (.pr .bool (.sl (.st (.pr (.int .u8) (.pr (.int .u8) (.int .i64)))))))))))))) (.pr (.sl (.nm 0)) (.sl (.nm 1)))))) (.st (.pr .bool (.pr (.st (.pr .bool (.pr .bool (.pr .bool (.pr (.st (.pr (.sl (.st (.pr (.int .i64) (.int .i64)))) (.sl (.st (.pr (.int .i64) (.int .i64)))))) (.st (.sl (.st (.pr .bool (.sl (.st (.pr (.int .u8) (.pr (.int .u8) (.int .i64)))))))))))))) (.pr (.sl (.nm 0)) (.sl (.nm 1))))))))], [.bool], fden (cx203 fu) fu Tryz.f19 [(.st (.pr (.st (.pr .bool (.pr (.st (.pr .bool (.pr .bool (.pr .bool (.pr (.st (.pr (.sl (.st (.pr (.int .i64) (.int .i64)))) (.sl (.st (.pr (.int .i64) (.int .i64)))))) (.st (.sl (.st (.pr .bool (.sl (.st (.pr (.int .u8) (.pr (.int .u8) (.int .i64)))))))))))))) (.pr (.sl (.nm 0)) (.sl (.nm 1)))))) (.st (.pr .bool (.pr (.st (.pr .bool (.pr .bool (.pr .bool (.pr (.st (.pr (.sl (.st (.pr (.int .i64) (.int .i64)))) (.sl (.st (.pr (.int .i64) (.int .i64)))))) (.st (.sl (.st (.pr .bool (.sl (.st (.pr (.int .u8) (.pr (.int .u8) (.int .i64)))))))))))))) (.pr (.sl (.nm 0)) (.sl (.nm 1))))))))] [.bool]⟩
theorem zs203 (fu : Nat) : SoundQ Tryz.prog 19 (Q203 fu) := fden_ok (cx := cx203 fu) (h203 fu) follows ent19 Tryz.func19 rfl rfl
def la204 : Nat → Option Pat
  | 2 => some ⟨[.nat], [(1, .keep), (3, .cnt 0 200)], [(0, .c 0)], 1⟩
  | _ => none
def pr204 : Nat → List Gh := fun _ => []
def po204 : Nat → List Gh := fun _ => []
def ph204 (_ : Nat) : Nat → Option (CQ (nEs [(80, 0), (81, 0), (88, 1), (89, 1), (110, 2), (111, 2)] [2, 2, 5])) := fun _ => none
theorem h204 (fu : Nat) : ∀ f q, ph204 fu f = some q → SoundC Tryz.prog f q := fun _ _ h => by cases h
noncomputable def cx204 (fu : Nat) : Cx (nEs [(80, 0), (81, 0), (88, 1), (89, 1), (110, 2), (111, 2)] [2, 2, 5]) := ⟨Tryz.prog, ph204 fu, la204, fun _ => none, pr204, po204, 0, 47⟩
noncomputable def Q204 (fu : Nat) : FQ (nEs [(80, 0), (81, 0), (88, 1), (89, 1), (110, 2), (111, 2)] [2, 2, 5]) := ⟨[(.nm 0)], [.bool], fden (cx204 fu) fu Tryz.f52 [(.nm 0)] [.bool]⟩
theorem zs204 (fu : Nat) : SoundQ Tryz.prog 52 (Q204 fu) := fden_ok (cx := cx204 fu) (h204 fu) follows ent52 Tryz.func52 rfl rfl
def la205 : Nat → Option Pat := fun _ => none
def pr205 : Nat → List Gh := fun _ => []
def po205 : Nat → List Gh
  | 1 => [.fzb 2 7]
  | _ => []
def ph205 (_ : Nat) : Nat → Option (CQ (nEs [(80, 0), (81, 0), (88, 1), (89, 1), (110, 2), (111, 2)] [2, 2, 5])) := fun _ => none
theorem h205 (fu : Nat) : ∀ f q, ph205 fu f = some q → SoundC Tryz.prog f q := fun _ _ h => by cases h
noncomputable def cx205 (fu : Nat) : Cx (nEs [(80, 0), (81, 0), (88, 1), (89, 1), (110, 2), (111, 2)] [2, 2, 5]) := ⟨Tryz.prog, ph205 fu, la205, fun _ => none, pr205, po205, 0, 6⟩
noncomputable def Q205 (fu : Nat) : FQ (nEs [(80, 0), (81, 0), (88, 1), (89, 1), (110, 2), (111, 2)] [2, 2, 5]) := ⟨[(.nm 0)], [(.st (.pr .bool (.pr (.st (.pr .bool (.pr .bool (.pr .bool (.pr (.st (.pr (.sl (.st (.pr (.int .i64) (.int .i64)))) (.sl (.st (.pr (.int .i64) (.int .i64)))))) (.st (.sl (.st (.pr .bool (.sl (.st (.pr (.int .u8) (.pr (.int .u8) (.int .i64)))))))))))))) (.pr (.sl (.nm 0)) (.sl (.nm 1))))))], fden (cx205 fu) fu Tryz.f54 [(.nm 0)] [(.st (.pr .bool (.pr (.st (.pr .bool (.pr .bool (.pr .bool (.pr (.st (.pr (.sl (.st (.pr (.int .i64) (.int .i64)))) (.sl (.st (.pr (.int .i64) (.int .i64)))))) (.st (.sl (.st (.pr .bool (.sl (.st (.pr (.int .u8) (.pr (.int .u8) (.int .i64)))))))))))))) (.pr (.sl (.nm 0)) (.sl (.nm 1))))))]⟩
theorem zs205 (fu : Nat) : SoundQ Tryz.prog 54 (Q205 fu) := fden_ok (cx := cx205 fu) (h205 fu) follows ent54 Tryz.func54 rfl rfl
def la206 : Nat → Option Pat := fun _ => none
def pr206 : Nat → List Gh := fun _ => []
def po206 : Nat → List Gh := fun _ => []
def ph206 (_ : Nat) : Nat → Option (CQ (nEs [(80, 0), (81, 0), (88, 1), (89, 1), (110, 2), (111, 2)] [2, 2, 5])) := fun _ => none
theorem h206 (fu : Nat) : ∀ f q, ph206 fu f = some q → SoundC Tryz.prog f q := fun _ _ h => by cases h
noncomputable def cx206 (fu : Nat) : Cx (nEs [(80, 0), (81, 0), (88, 1), (89, 1), (110, 2), (111, 2)] [2, 2, 5]) := ⟨Tryz.prog, ph206 fu, la206, fun _ => none, pr206, po206, 0, 9⟩
noncomputable def Q206 (fu : Nat) : FQ (nEs [(80, 0), (81, 0), (88, 1), (89, 1), (110, 2), (111, 2)] [2, 2, 5]) := ⟨[.bool, .bool], [(.int .i64)], fden (cx206 fu) fu Tryz.f185 [.bool, .bool] [(.int .i64)]⟩
theorem zs206 (fu : Nat) : SoundQ Tryz.prog 185 (Q206 fu) := fden_ok (cx := cx206 fu) (h206 fu) follows ent185 Tryz.func185 rfl rfl
def la207 : Nat → Option Pat
  | 3 => some ⟨[.dat (.sl (.st (.pr (.int .i64) (.int .i64)))), .dat (.int .i64), .nat], [(1, .v 1 (.int .i64)), (2, .keep), (7, .hdr 0), (10, .keep), (11, .keep), (12, .cnt 2 302)], [(0, .row 52 0)], 1⟩
  | _ => none
def pr207 : Nat → List Gh := fun _ => []
def po207 : Nat → List Gh
  | 2 => [.own 7 52 (.st (.pr (.int .i64) (.int .i64)))]
  | 11 => [.fz 6]
  | _ => []
def ph207 (_ : Nat) : Nat → Option (CQ (nEs [(80, 0), (81, 0), (88, 1), (89, 1), (110, 2), (111, 2)] [2, 2, 5])) := fun _ => none
theorem h207 (fu : Nat) : ∀ f q, ph207 fu f = some q → SoundC Tryz.prog f q := fun _ _ h => by cases h
noncomputable def cx207 (fu : Nat) : Cx (nEs [(80, 0), (81, 0), (88, 1), (89, 1), (110, 2), (111, 2)] [2, 2, 5]) := ⟨Tryz.prog, ph207 fu, la207, fun _ => none, pr207, po207, 0, 42⟩
noncomputable def Q207 (fu : Nat) : FQ (nEs [(80, 0), (81, 0), (88, 1), (89, 1), (110, 2), (111, 2)] [2, 2, 5]) := ⟨[(.sl (.st (.pr (.int .i64) (.int .i64)))), (.int .i64), (.int .i64)], [(.sl (.st (.pr (.int .i64) (.int .i64))))], fden (cx207 fu) fu Tryz.f269 [(.sl (.st (.pr (.int .i64) (.int .i64)))), (.int .i64), (.int .i64)] [(.sl (.st (.pr (.int .i64) (.int .i64))))]⟩
theorem zs207 (fu : Nat) : SoundQ Tryz.prog 269 (Q207 fu) := fden_ok (cx := cx207 fu) (h207 fu) follows ent269 Tryz.func269 rfl rfl
def la208 : Nat → Option Pat := fun _ => none
def pr208 : Nat → List Gh := fun _ => []
def po208 : Nat → List Gh := fun _ => []
noncomputable def ph208 (fu : Nat) : Nat → Option (CQ (nEs [(80, 0), (81, 0), (88, 1), (89, 1), (110, 2), (111, 2)] [2, 2, 5]))
  | 251 => some (.dat (Q179 fu))
  | 252 => some (.dat (Q173 fu))
  | 253 => some (.dat (Q177 fu))
  | 269 => some (.dat (Q207 fu))
  | _ => none
theorem h208 (fu : Nat) : ∀ f q, ph208 fu f = some q → SoundC Tryz.prog f q := by
  intro f q h
  unfold ph208 at h
  split at h
  · cases h; exact zs179 fu
  · cases h; exact zs173 fu
  · cases h; exact zs177 fu
  · cases h; exact zs207 fu
  · cases h
noncomputable def cx208 (fu : Nat) : Cx (nEs [(80, 0), (81, 0), (88, 1), (89, 1), (110, 2), (111, 2)] [2, 2, 5]) := ⟨Tryz.prog, ph208 fu, la208, fun _ => none, pr208, po208, 0, 10⟩
noncomputable def Q208 (fu : Nat) : FQ (nEs [(80, 0), (81, 0), (88, 1), (89, 1), (110, 2), (111, 2)] [2, 2, 5]) := ⟨[(.st (.pr (.sl (.st (.pr (.int .i64) (.int .i64)))) (.sl (.st (.pr (.int .i64) (.int .i64))))))], [(.st (.pr (.sl (.st (.pr (.int .i64) (.int .i64)))) (.sl (.st (.pr (.int .i64) (.int .i64))))))], fden (cx208 fu) fu Tryz.f199 [(.st (.pr (.sl (.st (.pr (.int .i64) (.int .i64)))) (.sl (.st (.pr (.int .i64) (.int .i64))))))] [(.st (.pr (.sl (.st (.pr (.int .i64) (.int .i64)))) (.sl (.st (.pr (.int .i64) (.int .i64))))))]⟩
theorem zs208 (fu : Nat) : SoundQ Tryz.prog 199 (Q208 fu) := fden_ok (cx := cx208 fu) (h208 fu) follows ent199 Tryz.func199 rfl rfl
def la209 : Nat → Option Pat := fun _ => none
def pr209 : Nat → List Gh
  | 6 => [.fz 16, .fz 28]
  | _ => []
def po209 : Nat → List Gh := fun _ => []
noncomputable def ph209 (fu : Nat) : Nat → Option (CQ (nEs [(80, 0), (81, 0), (88, 1), (89, 1), (110, 2), (111, 2)] [2, 2, 5]))
  | 179 => some (.dat (Q180 fu))
  | _ => none
theorem h209 (fu : Nat) : ∀ f q, ph209 fu f = some q → SoundC Tryz.prog f q := by
  intro f q h
  unfold ph209 at h
  split at h
  · cases h; exact zs180 fu
  · cases h
noncomputable def cx209 (fu : Nat) : Cx (nEs [(80, 0), (81, 0), (88, 1), (89, 1), (110, 2), (111, 2)] [2, 2, 5]) := ⟨Tryz.prog, ph209 fu, la209, fun _ => none, pr209, po209, 0, 32⟩
noncomputable def Q209 (fu : Nat) : FQ (nEs [(80, 0), (81, 0), (88, 1), (89, 1), (110, 2), (111, 2)] [2, 2, 5]) := ⟨[(.st (.pr (.sl (.st (.pr (.int .i64) (.int .i64)))) (.sl (.st (.pr (.int .i64) (.int .i64)))))), (.st (.pr (.sl (.st (.pr (.int .i64) (.int .i64)))) (.sl (.st (.pr (.int .i64) (.int .i64))))))], [(.st (.pr (.sl (.st (.pr (.int .i64) (.int .i64)))) (.sl (.st (.pr (.int .i64) (.int .i64))))))], fden (cx209 fu) fu Tryz.f263 [(.st (.pr (.sl (.st (.pr (.int .i64) (.int .i64)))) (.sl (.st (.pr (.int .i64) (.int .i64)))))), (.st (.pr (.sl (.st (.pr (.int .i64) (.int .i64)))) (.sl (.st (.pr (.int .i64) (.int .i64))))))] [(.st (.pr (.sl (.st (.pr (.int .i64) (.int .i64)))) (.sl (.st (.pr (.int .i64) (.int .i64))))))]⟩
theorem zs209 (fu : Nat) : SoundQ Tryz.prog 263 (Q209 fu) := fden_ok (cx := cx209 fu) (h209 fu) follows ent263 Tryz.func263 rfl rfl
def la210 : Nat → Option Pat := fun _ => none
def pr210 : Nat → List Gh := fun _ => []
def po210 : Nat → List Gh := fun _ => []
noncomputable def ph210 (fu : Nat) : Nat → Option (CQ (nEs [(80, 0), (81, 0), (88, 1), (89, 1), (110, 2), (111, 2)] [2, 2, 5]))
  | 199 => some (.dat (Q208 fu))
  | 263 => some (.dat (Q209 fu))
  | _ => none
theorem h210 (fu : Nat) : ∀ f q, ph210 fu f = some q → SoundC Tryz.prog f q := by
  intro f q h
  unfold ph210 at h
  split at h
  · cases h; exact zs208 fu
  · cases h; exact zs209 fu
  · cases h
noncomputable def cx210 (fu : Nat) : Cx (nEs [(80, 0), (81, 0), (88, 1), (89, 1), (110, 2), (111, 2)] [2, 2, 5]) := ⟨Tryz.prog, ph210 fu, la210, fun _ => none, pr210, po210, 0, 11⟩
noncomputable def Q210 (fu : Nat) : FQ (nEs [(80, 0), (81, 0), (88, 1), (89, 1), (110, 2), (111, 2)] [2, 2, 5]) := ⟨[(.st (.pr (.sl (.st (.pr (.int .i64) (.int .i64)))) (.sl (.st (.pr (.int .i64) (.int .i64)))))), (.st (.pr (.sl (.st (.pr (.int .i64) (.int .i64)))) (.sl (.st (.pr (.int .i64) (.int .i64))))))], [(.st (.pr (.sl (.st (.pr (.int .i64) (.int .i64)))) (.sl (.st (.pr (.int .i64) (.int .i64))))))], fden (cx210 fu) fu Tryz.f198 [(.st (.pr (.sl (.st (.pr (.int .i64) (.int .i64)))) (.sl (.st (.pr (.int .i64) (.int .i64)))))), (.st (.pr (.sl (.st (.pr (.int .i64) (.int .i64)))) (.sl (.st (.pr (.int .i64) (.int .i64))))))] [(.st (.pr (.sl (.st (.pr (.int .i64) (.int .i64)))) (.sl (.st (.pr (.int .i64) (.int .i64))))))]⟩
theorem zs210 (fu : Nat) : SoundQ Tryz.prog 198 (Q210 fu) := fden_ok (cx := cx210 fu) (h210 fu) follows ent198 Tryz.func198 rfl rfl
def la211 : Nat → Option Pat := fun _ => none
def pr211 : Nat → List Gh := fun _ => []
def po211 : Nat → List Gh := fun _ => []
noncomputable def ph211 (fu : Nat) : Nat → Option (CQ (nEs [(80, 0), (81, 0), (88, 1), (89, 1), (110, 2), (111, 2)] [2, 2, 5]))
  | 198 => some (.dat (Q210 fu))
  | 199 => some (.dat (Q208 fu))
  | _ => none
theorem h211 (fu : Nat) : ∀ f q, ph211 fu f = some q → SoundC Tryz.prog f q := by
  intro f q h
  unfold ph211 at h
  split at h
  · cases h; exact zs210 fu
  · cases h; exact zs208 fu
  · cases h
noncomputable def cx211 (fu : Nat) : Cx (nEs [(80, 0), (81, 0), (88, 1), (89, 1), (110, 2), (111, 2)] [2, 2, 5]) := ⟨Tryz.prog, ph211 fu, la211, fun _ => none, pr211, po211, 0, 9⟩
noncomputable def Q211 (fu : Nat) : FQ (nEs [(80, 0), (81, 0), (88, 1), (89, 1), (110, 2), (111, 2)] [2, 2, 5]) := ⟨[(.st (.pr (.sl (.st (.pr (.int .i64) (.int .i64)))) (.sl (.st (.pr (.int .i64) (.int .i64)))))), (.st (.pr (.sl (.st (.pr (.int .i64) (.int .i64)))) (.sl (.st (.pr (.int .i64) (.int .i64))))))], [(.st (.pr (.sl (.st (.pr (.int .i64) (.int .i64)))) (.sl (.st (.pr (.int .i64) (.int .i64))))))], fden (cx211 fu) fu Tryz.f133 [(.st (.pr (.sl (.st (.pr (.int .i64) (.int .i64)))) (.sl (.st (.pr (.int .i64) (.int .i64)))))), (.st (.pr (.sl (.st (.pr (.int .i64) (.int .i64)))) (.sl (.st (.pr (.int .i64) (.int .i64))))))] [(.st (.pr (.sl (.st (.pr (.int .i64) (.int .i64)))) (.sl (.st (.pr (.int .i64) (.int .i64))))))]⟩
theorem zs211 (fu : Nat) : SoundQ Tryz.prog 133 (Q211 fu) := fden_ok (cx := cx211 fu) (h211 fu) follows ent133 Tryz.func133 rfl rfl
def la212 : Nat → Option Pat := fun _ => none
def pr212 : Nat → List Gh := fun _ => []
def po212 : Nat → List Gh := fun _ => []
def ph212 (_ : Nat) : Nat → Option (CQ (nEs [(80, 0), (81, 0), (88, 1), (89, 1), (110, 2), (111, 2)] [2, 2, 5])) := fun _ => none
theorem h212 (fu : Nat) : ∀ f q, ph212 fu f = some q → SoundC Tryz.prog f q := fun _ _ h => by cases h
noncomputable def cx212 (fu : Nat) : Cx (nEs [(80, 0), (81, 0), (88, 1), (89, 1), (110, 2), (111, 2)] [2, 2, 5]) := ⟨Tryz.prog, ph212 fu, la212, fun _ => none, pr212, po212, 0, 28⟩
noncomputable def Q212 (fu : Nat) : FQ (nEs [(80, 0), (81, 0), (88, 1), (89, 1), (110, 2), (111, 2)] [2, 2, 5]) := ⟨[(.int .i64), (.int .i64)], [.bool], fden (cx212 fu) fu Tryz.f324 [(.int .i64), (.int .i64)] [.bool]⟩
theorem zs212 (fu : Nat) : SoundQ Tryz.prog 324 (Q212 fu) := fden_ok (cx := cx212 fu) (h212 fu) follows ent324 Tryz.func324 rfl rfl
def la213 : Nat → Option Pat
  | 4 => some ⟨[.dat (.sl (.int .i64)), .nat], [(4, .keep), (5, .hdr 2), (17, .keep), (18, .keep), (19, .cnt 1 401)], [(1, .c 0), (2, .row 2 0)], 3⟩
  | 11 => some ⟨[.dat (.sl (.int .i64)), .nat], [(5, .hdr 2), (42, .keep), (43, .keep), (44, .cnt 1 1101)], [(2, .row 2 0)], 3⟩
  | 19 => some ⟨[.dat (.int .i64), .dat .bool, .nat], [(10, .v 0 (.int .i64)), (11, .v 1 .bool), (67, .keep), (68, .keep), (69, .cnt 2 1902)], [(2, .c 0)], 3⟩
  | _ => none
def pr213 : Nat → List Gh := fun _ => []
def po213 : Nat → List Gh
  | 3 => [.own 5 2 (.int .i64)]
  | _ => []
noncomputable def ph213 (fu : Nat) : Nat → Option (CQ (nEs [(80, 0), (81, 0), (88, 1), (89, 1), (110, 2), (111, 2)] [2, 2, 5]))
  | 179 => some (.dat (Q180 fu))
  | 324 => some (.dat (Q212 fu))
  | _ => none
theorem h213 (fu : Nat) : ∀ f q, ph213 fu f = some q → SoundC Tryz.prog f q := by
  intro f q h
  unfold ph213 at h
  split at h
  · cases h; exact zs180 fu
  · cases h; exact zs212 fu
  · cases h
noncomputable def cx213 (fu : Nat) : Cx (nEs [(80, 0), (81, 0), (88, 1), (89, 1), (110, 2), (111, 2)] [2, 2, 5]) := ⟨Tryz.prog, ph213 fu, la213, fun _ => none, pr213, po213, 0, 84⟩
noncomputable def Q213 (fu : Nat) : FQ (nEs [(80, 0), (81, 0), (88, 1), (89, 1), (110, 2), (111, 2)] [2, 2, 5]) := ⟨[(.st (.pr (.sl (.st (.pr (.int .i64) (.int .i64)))) (.sl (.st (.pr (.int .i64) (.int .i64))))))], [(.int .i64), .bool], fden (cx213 fu) fu Tryz.f262 [(.st (.pr (.sl (.st (.pr (.int .i64) (.int .i64)))) (.sl (.st (.pr (.int .i64) (.int .i64))))))] [(.int .i64), .bool]⟩
theorem zs213 (fu : Nat) : SoundQ Tryz.prog 262 (Q213 fu) := fden_ok (cx := cx213 fu) (h213 fu) follows ent262 Tryz.func262 rfl rfl
def la214 : Nat → Option Pat := fun _ => none
def pr214 : Nat → List Gh := fun _ => []
def po214 : Nat → List Gh := fun _ => []
def ph214 (_ : Nat) : Nat → Option (CQ (nEs [(80, 0), (81, 0), (88, 1), (89, 1), (110, 2), (111, 2)] [2, 2, 5])) := fun _ => none
theorem h214 (fu : Nat) : ∀ f q, ph214 fu f = some q → SoundC Tryz.prog f q := fun _ _ h => by cases h
noncomputable def cx214 (fu : Nat) : Cx (nEs [(80, 0), (81, 0), (88, 1), (89, 1), (110, 2), (111, 2)] [2, 2, 5]) := ⟨Tryz.prog, ph214 fu, la214, fun _ => none, pr214, po214, 0, 9⟩
noncomputable def Q214 (fu : Nat) : FQ (nEs [(80, 0), (81, 0), (88, 1), (89, 1), (110, 2), (111, 2)] [2, 2, 5]) := ⟨[(.int .i64)], [.bool], fden (cx214 fu) fu Tryz.f325 [(.int .i64)] [.bool]⟩
theorem zs214 (fu : Nat) : SoundQ Tryz.prog 325 (Q214 fu) := fden_ok (cx := cx214 fu) (h214 fu) follows ent325 Tryz.func325 rfl rfl
def la215 : Nat → Option Pat
  | 7 => some ⟨[.nat], [(6, .keep), (21, .keep), (22, .keep), (23, .cnt 0 700)], [], 1⟩
  | _ => none
def pr215 : Nat → List Gh := fun _ => []
def po215 : Nat → List Gh := fun _ => []
noncomputable def ph215 (fu : Nat) : Nat → Option (CQ (nEs [(80, 0), (81, 0), (88, 1), (89, 1), (110, 2), (111, 2)] [2, 2, 5]))
  | 321 => some (.dat (Q174 fu))
  | 325 => some (.dat (Q214 fu))
  | _ => none
theorem h215 (fu : Nat) : ∀ f q, ph215 fu f = some q → SoundC Tryz.prog f q := by
  intro f q h
  unfold ph215 at h
  split at h
  · cases h; exact zs174 fu
  · cases h; exact zs214 fu
  · cases h
noncomputable def cx215 (fu : Nat) : Cx (nEs [(80, 0), (81, 0), (88, 1), (89, 1), (110, 2), (111, 2)] [2, 2, 5]) := ⟨Tryz.prog, ph215 fu, la215, fun _ => none, pr215, po215, 0, 38⟩
noncomputable def Q215 (fu : Nat) : FQ (nEs [(80, 0), (81, 0), (88, 1), (89, 1), (110, 2), (111, 2)] [2, 2, 5]) := ⟨[(.st (.pr (.sl (.st (.pr (.int .i64) (.int .i64)))) (.sl (.st (.pr (.int .i64) (.int .i64)))))), (.int .i64)], [.bool], fden (cx215 fu) fu Tryz.f264 [(.st (.pr (.sl (.st (.pr (.int .i64) (.int .i64)))) (.sl (.st (.pr (.int .i64) (.int .i64)))))), (.int .i64)] [.bool]⟩
theorem zs215 (fu : Nat) : SoundQ Tryz.prog 264 (Q215 fu) := fden_ok (cx := cx215 fu) (h215 fu) follows ent264 Tryz.func264 rfl rfl
def la216 : Nat → Option Pat := fun _ => none
def pr216 : Nat → List Gh := fun _ => []
def po216 : Nat → List Gh := fun _ => []
noncomputable def ph216 (fu : Nat) : Nat → Option (CQ (nEs [(80, 0), (81, 0), (88, 1), (89, 1), (110, 2), (111, 2)] [2, 2, 5]))
  | 133 => some (.dat (Q211 fu))
  | 262 => some (.dat (Q213 fu))
  | 263 => some (.dat (Q209 fu))
  | 264 => some (.dat (Q215 fu))
  | _ => none
theorem h216 (fu : Nat) : ∀ f q, ph216 fu f = some q → SoundC Tryz.prog f q := by
  intro f q h
  unfold ph216 at h
  split at h
  · cases h; exact zs211 fu
  · cases h; exact zs213 fu
  · cases h; exact zs209 fu
  · cases h; exact zs215 fu
  · cases h
noncomputable def cx216 (fu : Nat) : Cx (nEs [(80, 0), (81, 0), (88, 1), (89, 1), (110, 2), (111, 2)] [2, 2, 5]) := ⟨Tryz.prog, ph216 fu, la216, fun _ => none, pr216, po216, 0, 23⟩
noncomputable def Q216 (fu : Nat) : FQ (nEs [(80, 0), (81, 0), (88, 1), (89, 1), (110, 2), (111, 2)] [2, 2, 5]) := ⟨[(.st (.pr (.sl (.st (.pr (.int .i64) (.int .i64)))) (.sl (.st (.pr (.int .i64) (.int .i64)))))), (.st (.pr (.sl (.st (.pr (.int .i64) (.int .i64)))) (.sl (.st (.pr (.int .i64) (.int .i64))))))], [(.int .i64)], fden (cx216 fu) fu Tryz.f186 [(.st (.pr (.sl (.st (.pr (.int .i64) (.int .i64)))) (.sl (.st (.pr (.int .i64) (.int .i64)))))), (.st (.pr (.sl (.st (.pr (.int .i64) (.int .i64)))) (.sl (.st (.pr (.int .i64) (.int .i64))))))] [(.int .i64)]⟩
theorem zs216 (fu : Nat) : SoundQ Tryz.prog 186 (Q216 fu) := fden_ok (cx := cx216 fu) (h216 fu) follows ent186 Tryz.func186 rfl rfl
def la217 : Nat → Option Pat := fun _ => none
def pr217 : Nat → List Gh := fun _ => []
def po217 : Nat → List Gh := fun _ => []
noncomputable def ph217 (fu : Nat) : Nat → Option (CQ (nEs [(80, 0), (81, 0), (88, 1), (89, 1), (110, 2), (111, 2)] [2, 2, 5]))
  | 115 => some (.dat (Q196 fu))
  | _ => none
theorem h217 (fu : Nat) : ∀ f q, ph217 fu f = some q → SoundC Tryz.prog f q := by
  intro f q h
  unfold ph217 at h
  split at h
  · cases h; exact zs196 fu
  · cases h
noncomputable def cx217 (fu : Nat) : Cx (nEs [(80, 0), (81, 0), (88, 1), (89, 1), (110, 2), (111, 2)] [2, 2, 5]) := ⟨Tryz.prog, ph217 fu, la217, fun _ => none, pr217, po217, 0, 8⟩
noncomputable def Q217 (fu : Nat) : FQ (nEs [(80, 0), (81, 0), (88, 1), (89, 1), (110, 2), (111, 2)] [2, 2, 5]) := ⟨[(.st (.sl (.st (.pr .bool (.sl (.st (.pr (.int .u8) (.pr (.int .u8) (.int .i64)))))))))], [(.st (.sl (.st (.pr .bool (.sl (.st (.pr (.int .u8) (.pr (.int .u8) (.int .i64)))))))))], fden (cx217 fu) fu Tryz.f192 [(.st (.sl (.st (.pr .bool (.sl (.st (.pr (.int .u8) (.pr (.int .u8) (.int .i64)))))))))] [(.st (.sl (.st (.pr .bool (.sl (.st (.pr (.int .u8) (.pr (.int .u8) (.int .i64)))))))))]⟩
theorem zs217 (fu : Nat) : SoundQ Tryz.prog 192 (Q217 fu) := fden_ok (cx := cx217 fu) (h217 fu) follows ent192 Tryz.func192 rfl rfl
def la218 : Nat → Option Pat := fun _ => none
def pr218 : Nat → List Gh := fun _ => []
def po218 : Nat → List Gh := fun _ => []
def ph218 (_ : Nat) : Nat → Option (CQ (nEs [(80, 0), (81, 0), (88, 1), (89, 1), (110, 2), (111, 2)] [2, 2, 5])) := fun _ => none
theorem h218 (fu : Nat) : ∀ f q, ph218 fu f = some q → SoundC Tryz.prog f q := fun _ _ h => by cases h
noncomputable def cx218 (fu : Nat) : Cx (nEs [(80, 0), (81, 0), (88, 1), (89, 1), (110, 2), (111, 2)] [2, 2, 5]) := ⟨Tryz.prog, ph218 fu, la218, fun _ => none, pr218, po218, 0, 7⟩
noncomputable def Q218 (fu : Nat) : FQ (nEs [(80, 0), (81, 0), (88, 1), (89, 1), (110, 2), (111, 2)] [2, 2, 5]) := ⟨[(.st (.sl (.st (.pr .bool (.sl (.st (.pr (.int .u8) (.pr (.int .u8) (.int .i64)))))))))], [(.int .i64)], fden (cx218 fu) fu Tryz.f193 [(.st (.sl (.st (.pr .bool (.sl (.st (.pr (.int .u8) (.pr (.int .u8) (.int .i64)))))))))] [(.int .i64)]⟩
theorem zs218 (fu : Nat) : SoundQ Tryz.prog 193 (Q218 fu) := fden_ok (cx := cx218 fu) (h218 fu) follows ent193 Tryz.func193 rfl rfl
def la219 : Nat → Option Pat := fun _ => none
def pr219 : Nat → List Gh := fun _ => []
def po219 : Nat → List Gh := fun _ => []
def ph219 (_ : Nat) : Nat → Option (CQ (nEs [(80, 0), (81, 0), (88, 1), (89, 1), (110, 2), (111, 2)] [2, 2, 5])) := fun _ => none
theorem h219 (fu : Nat) : ∀ f q, ph219 fu f = some q → SoundC Tryz.prog f q := fun _ _ h => by cases h
noncomputable def cx219 (fu : Nat) : Cx (nEs [(80, 0), (81, 0), (88, 1), (89, 1), (110, 2), (111, 2)] [2, 2, 5]) := ⟨Tryz.prog, ph219 fu, la219, fun _ => none, pr219, po219, 0, 15⟩
noncomputable def Q219 (fu : Nat) : FQ (nEs [(80, 0), (81, 0), (88, 1), (89, 1), (110, 2), (111, 2)] [2, 2, 5]) := ⟨[(.st (.sl (.st (.pr .bool (.sl (.st (.pr (.int .u8) (.pr (.int .u8) (.int .i64))))))))), (.int .i64)], [.bool], fden (cx219 fu) fu Tryz.f195 [(.st (.sl (.st (.pr .bool (.sl (.st (.pr (.int .u8) (.pr (.int .u8) (.int .i64))))))))), (.int .i64)] [.bool]⟩
theorem zs219 (fu : Nat) : SoundQ Tryz.prog 195 (Q219 fu) := fden_ok (cx := cx219 fu) (h219 fu) follows ent195 Tryz.func195 rfl rfl
def la220 : Nat → Option Pat := fun _ => none
def pr220 : Nat → List Gh := fun _ => []
def po220 : Nat → List Gh := fun _ => []
def ph220 (_ : Nat) : Nat → Option (CQ (nEs [(80, 0), (81, 0), (88, 1), (89, 1), (110, 2), (111, 2)] [2, 2, 5])) := fun _ => none
theorem h220 (fu : Nat) : ∀ f q, ph220 fu f = some q → SoundC Tryz.prog f q := fun _ _ h => by cases h
noncomputable def cx220 (fu : Nat) : Cx (nEs [(80, 0), (81, 0), (88, 1), (89, 1), (110, 2), (111, 2)] [2, 2, 5]) := ⟨Tryz.prog, ph220 fu, la220, fun _ => none, pr220, po220, 0, 25⟩
noncomputable def Q220 (fu : Nat) : FQ (nEs [(80, 0), (81, 0), (88, 1), (89, 1), (110, 2), (111, 2)] [2, 2, 5]) := ⟨[(.int .u8), .bool, .bool], [.bool], fden (cx220 fu) fu Tryz.f194 [(.int .u8), .bool, .bool] [.bool]⟩
theorem zs220 (fu : Nat) : SoundQ Tryz.prog 194 (Q220 fu) := fden_ok (cx := cx220 fu) (h220 fu) follows ent194 Tryz.func194 rfl rfl
def la221 : Nat → Option Pat
  | 3 => some ⟨[.dat (.int .i64), .nat], [(0, .keep), (1, .keep), (2, .keep), (7, .v 0 (.int .i64)), (8, .cnt 1 301)], [], 0⟩
  | 8 => some ⟨[.dat (.int .i64), .nat], [(0, .keep), (1, .keep), (2, .keep), (7, .v 0 (.int .i64)), (8, .keep), (9, .keep), (10, .cnt 1 801)], [], 0⟩
  | _ => none
def pr221 : Nat → List Gh := fun _ => []
def po221 : Nat → List Gh := fun _ => []
def ph221 (_ : Nat) : Nat → Option (CQ (nEs [(80, 0), (81, 0), (88, 1), (89, 1), (110, 2), (111, 2)] [2, 2, 5])) := fun _ => none
theorem h221 (fu : Nat) : ∀ f q, ph221 fu f = some q → SoundC Tryz.prog f q := fun _ _ h => by cases h
noncomputable def cx221 (fu : Nat) : Cx (nEs [(80, 0), (81, 0), (88, 1), (89, 1), (110, 2), (111, 2)] [2, 2, 5]) := ⟨Tryz.prog, ph221 fu, la221, fun _ => none, pr221, po221, 0, 74⟩
noncomputable def Q221 (fu : Nat) : FQ (nEs [(80, 0), (81, 0), (88, 1), (89, 1), (110, 2), (111, 2)] [2, 2, 5]) := ⟨[(.sl (.st (.sl (.st (.pr .bool (.sl (.st (.pr (.int .u8) (.pr (.int .u8) (.int .i64)))))))))), (.sl (.int .i64)), (.int .i64)], [(.int .i64)], fden (cx221 fu) fu Tryz.f182 [(.sl (.st (.sl (.st (.pr .bool (.sl (.st (.pr (.int .u8) (.pr (.int .u8) (.int .i64)))))))))), (.sl (.int .i64)), (.int .i64)] [(.int .i64)]⟩
theorem zs221 (fu : Nat) : SoundQ Tryz.prog 182 (Q221 fu) := fden_ok (cx := cx221 fu) (h221 fu) follows ent182 Tryz.func182 rfl rfl
def la222 : Nat → Option Pat
  | 4 => some ⟨[.nat], [(1, .keep), (2, .keep), (3, .keep), (7, .cnt 0 400)], [(0, .c 0)], 1⟩
  | _ => none
def pr222 : Nat → List Gh := fun _ => []
def po222 : Nat → List Gh := fun _ => []
def ph222 (_ : Nat) : Nat → Option (CQ (nEs [(80, 0), (81, 0), (88, 1), (89, 1), (110, 2), (111, 2)] [2, 2, 5])) := fun _ => none
theorem h222 (fu : Nat) : ∀ f q, ph222 fu f = some q → SoundC Tryz.prog f q := fun _ _ h => by cases h
noncomputable def cx222 (fu : Nat) : Cx (nEs [(80, 0), (81, 0), (88, 1), (89, 1), (110, 2), (111, 2)] [2, 2, 5]) := ⟨Tryz.prog, ph222 fu, la222, fun _ => none, pr222, po222, 0, 45⟩
noncomputable def Q222 (fu : Nat) : FQ (nEs [(80, 0), (81, 0), (88, 1), (89, 1), (110, 2), (111, 2)] [2, 2, 5]) := ⟨[(.st (.sl (.st (.pr .bool (.sl (.st (.pr (.int .u8) (.pr (.int .u8) (.int .i64))))))))), (.int .i64), (.int .i64)], [(.int .i64)], fden (cx222 fu) fu Tryz.f196 [(.st (.sl (.st (.pr .bool (.sl (.st (.pr (.int .u8) (.pr (.int .u8) (.int .i64))))))))), (.int .i64), (.int .i64)] [(.int .i64)]⟩
theorem zs222 (fu : Nat) : SoundQ Tryz.prog 196 (Q222 fu) := fden_ok (cx := cx222 fu) (h222 fu) follows ent196 Tryz.func196 rfl rfl
def la223 : Nat → Option Pat
  | 2 => some ⟨[.nat], [(0, .keep), (3, .keep), (5, .cnt 0 200)], [(0, .c 0)], 1⟩
  | _ => none
def pr223 : Nat → List Gh := fun _ => []
def po223 : Nat → List Gh := fun _ => []
def ph223 (_ : Nat) : Nat → Option (CQ (nEs [(80, 0), (81, 0), (88, 1), (89, 1), (110, 2), (111, 2)] [2, 2, 5])) := fun _ => none
theorem h223 (fu : Nat) : ∀ f q, ph223 fu f = some q → SoundC Tryz.prog f q := fun _ _ h => by cases h
noncomputable def cx223 (fu : Nat) : Cx (nEs [(80, 0), (81, 0), (88, 1), (89, 1), (110, 2), (111, 2)] [2, 2, 5]) := ⟨Tryz.prog, ph223 fu, la223, fun _ => none, pr223, po223, 0, 19⟩
noncomputable def Q223 (fu : Nat) : FQ (nEs [(80, 0), (81, 0), (88, 1), (89, 1), (110, 2), (111, 2)] [2, 2, 5]) := ⟨[(.sl (.st (.pr (.int .i64) (.int .i64)))), (.st (.pr (.int .i64) (.int .i64)))], [(.int .i64)], fden (cx223 fu) fu Tryz.f197 [(.sl (.st (.pr (.int .i64) (.int .i64)))), (.st (.pr (.int .i64) (.int .i64)))] [(.int .i64)]⟩
theorem zs223 (fu : Nat) : SoundQ Tryz.prog 197 (Q223 fu) := fden_ok (cx := cx223 fu) (h223 fu) follows ent197 Tryz.func197 rfl rfl
def la224 : Nat → Option Pat
  | 5 => some ⟨[.dat (.sl (.st (.pr (.int .i64) (.int .i64)))), .dat (.sl (.st (.pr .bool (.sl (.st (.pr (.int .u8) (.pr (.int .u8) (.int .i64)))))))), .nat], [(2, .keep), (6, .keep), (7, .keep), (8, .keep), (9, .hdr 5), (10, .hdr 6), (11, .cnt 2 502)], [(5, .row 226 0), (4, .c 0), (3, .c 0), (2, .c 0), (6, .row 216 1)], 7⟩
  | 10 => some ⟨[.dat (.sl (.st (.pr (.int .i64) (.int .i64)))), .dat (.sl (.st (.pr (.int .u8) (.pr (.int .u8) (.int .i64))))), .dat (.int .i64)], [(2, .keep), (6, .keep), (7, .keep), (8, .keep), (9, .hdr 5), (10, .keep), (11, .keep), (12, .keep), (13, .keep), (14, .v 2 (.int .i64))], [(8, .blk 216 [(1, .keep), (1, .hdr 9)]), (7, .c 0), (6, .c 0), (5, .row 226 0), (4, .c 0), (3, .c 0), (2, .c 0), (9, .row 213 1)], 10⟩
  | _ => none
def pr224 : Nat → List Gh
  | 20 => [.fz 10]
  | _ => []
def po224 : Nat → List Gh
  | 4 => [.own 10 216 (.st (.pr .bool (.sl (.st (.pr (.int .u8) (.pr (.int .u8) (.int .i64)))))))]
  | 9 => [.ownb 13 1 213 (.st (.pr (.int .u8) (.pr (.int .u8) (.int .i64))))]
  | _ => []
noncomputable def ph224 (fu : Nat) : Nat → Option (CQ (nEs [(80, 0), (81, 0), (88, 1), (89, 1), (110, 2), (111, 2)] [2, 2, 5]))
  | 180 => some (.dat (Q194 fu))
  | 182 => some (.dat (Q221 fu))
  | 192 => some (.dat (Q217 fu))
  | 193 => some (.dat (Q218 fu))
  | 194 => some (.dat (Q220 fu))
  | 195 => some (.dat (Q219 fu))
  | 196 => some (.dat (Q222 fu))
  | 197 => some (.dat (Q223 fu))
  | _ => none
theorem h224 (fu : Nat) : ∀ f q, ph224 fu f = some q → SoundC Tryz.prog f q := by
  intro f q h
  unfold ph224 at h
  split at h
  · cases h; exact zs194 fu
  · cases h; exact zs221 fu
  · cases h; exact zs217 fu
  · cases h; exact zs218 fu
  · cases h; exact zs220 fu
  · cases h; exact zs219 fu
  · cases h; exact zs222 fu
  · cases h; exact zs223 fu
  · cases h
noncomputable def cx224 (fu : Nat) : Cx (nEs [(80, 0), (81, 0), (88, 1), (89, 1), (110, 2), (111, 2)] [2, 2, 5]) := ⟨Tryz.prog, ph224 fu, la224, fun _ => none, pr224, po224, 0, 108⟩
noncomputable def Q224 (fu : Nat) : FQ (nEs [(80, 0), (81, 0), (88, 1), (89, 1), (110, 2), (111, 2)] [2, 2, 5]) := ⟨[(.st (.sl (.st (.pr .bool (.sl (.st (.pr (.int .u8) (.pr (.int .u8) (.int .i64))))))))), (.st (.sl (.st (.pr .bool (.sl (.st (.pr (.int .u8) (.pr (.int .u8) (.int .i64))))))))), (.int .u8)], [(.st (.sl (.st (.pr .bool (.sl (.st (.pr (.int .u8) (.pr (.int .u8) (.int .i64)))))))))], fden (cx224 fu) fu Tryz.f128 [(.st (.sl (.st (.pr .bool (.sl (.st (.pr (.int .u8) (.pr (.int .u8) (.int .i64))))))))), (.st (.sl (.st (.pr .bool (.sl (.st (.pr (.int .u8) (.pr (.int .u8) (.int .i64))))))))), (.int .u8)] [(.st (.sl (.st (.pr .bool (.sl (.st (.pr (.int .u8) (.pr (.int .u8) (.int .i64)))))))))]⟩
theorem zs224 (fu : Nat) : SoundQ Tryz.prog 128 (Q224 fu) := fden_ok (cx := cx224 fu) (h224 fu) follows ent128 Tryz.func128 rfl rfl
def la225 : Nat → Option Pat := fun _ => none
def pr225 : Nat → List Gh := fun _ => []
def po225 : Nat → List Gh := fun _ => []
noncomputable def ph225 (fu : Nat) : Nat → Option (CQ (nEs [(80, 0), (81, 0), (88, 1), (89, 1), (110, 2), (111, 2)] [2, 2, 5]))
  | 128 => some (.dat (Q224 fu))
  | _ => none
theorem h225 (fu : Nat) : ∀ f q, ph225 fu f = some q → SoundC Tryz.prog f q := by
  intro f q h
  unfold ph225 at h
  split at h
  · cases h; exact zs224 fu
  · cases h
noncomputable def cx225 (fu : Nat) : Cx (nEs [(80, 0), (81, 0), (88, 1), (89, 1), (110, 2), (111, 2)] [2, 2, 5]) := ⟨Tryz.prog, ph225 fu, la225, fun _ => none, pr225, po225, 0, 8⟩
noncomputable def Q225 (fu : Nat) : FQ (nEs [(80, 0), (81, 0), (88, 1), (89, 1), (110, 2), (111, 2)] [2, 2, 5]) := ⟨[(.st (.sl (.st (.pr .bool (.sl (.st (.pr (.int .u8) (.pr (.int .u8) (.int .i64))))))))), (.st (.sl (.st (.pr .bool (.sl (.st (.pr (.int .u8) (.pr (.int .u8) (.int .i64)))))))))], [(.st (.sl (.st (.pr .bool (.sl (.st (.pr (.int .u8) (.pr (.int .u8) (.int .i64)))))))))], fden (cx225 fu) fu Tryz.f134 [(.st (.sl (.st (.pr .bool (.sl (.st (.pr (.int .u8) (.pr (.int .u8) (.int .i64))))))))), (.st (.sl (.st (.pr .bool (.sl (.st (.pr (.int .u8) (.pr (.int .u8) (.int .i64)))))))))] [(.st (.sl (.st (.pr .bool (.sl (.st (.pr (.int .u8) (.pr (.int .u8) (.int .i64)))))))))]⟩
theorem zs225 (fu : Nat) : SoundQ Tryz.prog 134 (Q225 fu) := fden_ok (cx := cx225 fu) (h225 fu) follows ent134 Tryz.func134 rfl rfl
def la226 : Nat → Option Pat
  | 3 => some ⟨[.nat], [(1, .keep), (2, .keep), (5, .keep), (6, .cnt 0 300)], [(1, .c 0), (0, .c 0)], 2⟩
  | 8 => some ⟨[.dat (.int .i64)], [(1, .keep), (2, .keep), (5, .keep), (7, .v 0 (.int .i64))], [(1, .c 0), (0, .c 0)], 2⟩
  | 11 => some ⟨[.nat], [(1, .keep), (2, .keep), (5, .keep), (7, .keep), (8, .cnt 0 1100)], [(1, .c 0), (0, .c 0)], 2⟩
  | 14 => some ⟨[.nat], [(1, .keep), (2, .keep), (5, .keep), (7, .keep), (8, .keep), (9, .cnt 0 1400)], [(1, .c 0), (0, .c 0)], 2⟩
  | _ => none
def pr226 : Nat → List Gh := fun _ => []
def po226 : Nat → List Gh
  | 18 => [.fz 4]
  | _ => []
def ph226 (_ : Nat) : Nat → Option (CQ (nEs [(80, 0), (81, 0), (88, 1), (89, 1), (110, 2), (111, 2)] [2, 2, 5])) := fun _ => none
theorem h226 (fu : Nat) : ∀ f q, ph226 fu f = some q → SoundC Tryz.prog f q := fun _ _ h => by cases h
noncomputable def cx226 (fu : Nat) : Cx (nEs [(80, 0), (81, 0), (88, 1), (89, 1), (110, 2), (111, 2)] [2, 2, 5]) := ⟨Tryz.prog, ph226 fu, la226, fun _ => none, pr226, po226, 0, 85⟩
noncomputable def Q226 (fu : Nat) : FQ (nEs [(80, 0), (81, 0), (88, 1), (89, 1), (110, 2), (111, 2)] [2, 2, 5]) := ⟨[(.st (.sl (.st (.pr .bool (.sl (.st (.pr (.int .u8) (.pr (.int .u8) (.int .i64))))))))), (.int .i64)], [(.sl (.sl .bool))], fden (cx226 fu) fu Tryz.f267 [(.st (.sl (.st (.pr .bool (.sl (.st (.pr (.int .u8) (.pr (.int .u8) (.int .i64))))))))), (.int .i64)] [(.sl (.sl .bool))]⟩
theorem zs226 (fu : Nat) : SoundQ Tryz.prog 267 (Q226 fu) := fden_ok (cx := cx226 fu) (h226 fu) follows ent267 Tryz.func267 rfl rfl
def la227 : Nat → Option Pat
  | 7 => some ⟨[.nat], [(1, .keep), (2, .keep), (3, .keep), (4, .keep), (5, .keep), (6, .keep), (13, .keep), (14, .cnt 0 700)], [(0, .c 0)], 1⟩
  | 11 => some ⟨[], [(1, .keep), (2, .keep), (3, .keep), (4, .keep), (5, .keep), (6, .keep), (13, .keep), (14, .keep), (15, .keep), (16, .keep)], [(1, .c 0), (0, .c 0)], 2⟩
  | _ => none
def pr227 : Nat → List Gh := fun _ => []
def po227 : Nat → List Gh
  | 4 => [.fz 12]
  | _ => []
def ph227 (_ : Nat) : Nat → Option (CQ (nEs [(80, 0), (81, 0), (88, 1), (89, 1), (110, 2), (111, 2)] [2, 2, 5])) := fun _ => none
theorem h227 (fu : Nat) : ∀ f q, ph227 fu f = some q → SoundC Tryz.prog f q := fun _ _ h => by cases h
noncomputable def cx227 (fu : Nat) : Cx (nEs [(80, 0), (81, 0), (88, 1), (89, 1), (110, 2), (111, 2)] [2, 2, 5]) := ⟨Tryz.prog, ph227 fu, la227, fun _ => none, pr227, po227, 0, 95⟩
noncomputable def Q227 (fu : Nat) : FQ (nEs [(80, 0), (81, 0), (88, 1), (89, 1), (110, 2), (111, 2)] [2, 2, 5]) := ⟨[(.st (.sl (.st (.pr .bool (.sl (.st (.pr (.int .u8) (.pr (.int .u8) (.int .i64))))))))), (.sl (.sl .bool)), (.int .i64), (.int .i64), (.int .i64), .str], [(.sl .str)], fden (cx227 fu) fu Tryz.f268 [(.st (.sl (.st (.pr .bool (.sl (.st (.pr (.int .u8) (.pr (.int .u8) (.int .i64))))))))), (.sl (.sl .bool)), (.int .i64), (.int .i64), (.int .i64), .str] [(.sl .str)]⟩
theorem zs227 (fu : Nat) : SoundQ Tryz.prog 268 (Q227 fu) := fden_ok (cx := cx227 fu) (h227 fu) follows ent268 Tryz.func268 rfl rfl
def la228 : Nat → Option Pat
  | 9 => some ⟨[.dat (.sl .str), .dat (.int .i64)], [(5, .keep), (6, .keep), (7, .keep), (8, .keep), (9, .hdr 2), (10, .v 1 (.int .i64))], [(1, .c 0), (2, .row 9 0)], 3⟩
  | _ => none
def pr228 : Nat → List Gh := fun _ => []
def po228 : Nat → List Gh
  | 8 => [.own 9 9 .str]
  | 12 => [.fz 4]
  | _ => []
noncomputable def ph228 (fu : Nat) : Nat → Option (CQ (nEs [(80, 0), (81, 0), (88, 1), (89, 1), (110, 2), (111, 2)] [2, 2, 5]))
  | 192 => some (.dat (Q217 fu))
  | 267 => some (.dat (Q226 fu))
  | 268 => some (.dat (Q227 fu))
  | _ => none
theorem h228 (fu : Nat) : ∀ f q, ph228 fu f = some q → SoundC Tryz.prog f q := by
  intro f q h
  unfold ph228 at h
  split at h
  · cases h; exact zs217 fu
  · cases h; exact zs226 fu
  · cases h; exact zs227 fu
  · cases h
noncomputable def cx228 (fu : Nat) : Cx (nEs [(80, 0), (81, 0), (88, 1), (89, 1), (110, 2), (111, 2)] [2, 2, 5]) := ⟨Tryz.prog, ph228 fu, la228, fun _ => none, pr228, po228, 0, 52⟩
noncomputable def Q228 (fu : Nat) : FQ (nEs [(80, 0), (81, 0), (88, 1), (89, 1), (110, 2), (111, 2)] [2, 2, 5]) := ⟨[(.st (.sl (.st (.pr .bool (.sl (.st (.pr (.int .u8) (.pr (.int .u8) (.int .i64))))))))), (.int .i64)], [(.sl .str)], fden (cx228 fu) fu Tryz.f190 [(.st (.sl (.st (.pr .bool (.sl (.st (.pr (.int .u8) (.pr (.int .u8) (.int .i64))))))))), (.int .i64)] [(.sl .str)]⟩
theorem zs228 (fu : Nat) : SoundQ Tryz.prog 190 (Q228 fu) := fden_ok (cx := cx228 fu) (h228 fu) follows ent190 Tryz.func190 rfl rfl
def la229 : Nat → Option Pat := fun _ => none
def pr229 : Nat → List Gh := fun _ => []
def po229 : Nat → List Gh := fun _ => []
noncomputable def ph229 (fu : Nat) : Nat → Option (CQ (nEs [(80, 0), (81, 0), (88, 1), (89, 1), (110, 2), (111, 2)] [2, 2, 5]))
  | 190 => some (.dat (Q228 fu))
  | _ => none
theorem h229 (fu : Nat) : ∀ f q, ph229 fu f = some q → SoundC Tryz.prog f q := by
  intro f q h
  unfold ph229 at h
  split at h
  · cases h; exact zs228 fu
  · cases h
noncomputable def cx229 (fu : Nat) : Cx (nEs [(80, 0), (81, 0), (88, 1), (89, 1), (110, 2), (111, 2)] [2, 2, 5]) := ⟨Tryz.prog, ph229 fu, la229, fun _ => none, pr229, po229, 0, 13⟩
noncomputable def Q229 (fu : Nat) : FQ (nEs [(80, 0), (81, 0), (88, 1), (89, 1), (110, 2), (111, 2)] [2, 2, 5]) := ⟨[(.st (.sl (.st (.pr .bool (.sl (.st (.pr (.int .u8) (.pr (.int .u8) (.int .i64)))))))))], [.str, .bool], fden (cx229 fu) fu Tryz.f125 [(.st (.sl (.st (.pr .bool (.sl (.st (.pr (.int .u8) (.pr (.int .u8) (.int .i64)))))))))] [.str, .bool]⟩
theorem zs229 (fu : Nat) : SoundQ Tryz.prog 125 (Q229 fu) := fden_ok (cx := cx229 fu) (h229 fu) follows ent125 Tryz.func125 rfl rfl
def la230 : Nat → Option Pat := fun _ => none
def pr230 : Nat → List Gh := fun _ => []
def po230 : Nat → List Gh := fun _ => []
def ph230 (_ : Nat) : Nat → Option (CQ (nEs [(80, 0), (81, 0), (88, 1), (89, 1), (110, 2), (111, 2)] [2, 2, 5])) := fun _ => none
theorem h230 (fu : Nat) : ∀ f q, ph230 fu f = some q → SoundC Tryz.prog f q := fun _ _ h => by cases h
noncomputable def cx230 (fu : Nat) : Cx (nEs [(80, 0), (81, 0), (88, 1), (89, 1), (110, 2), (111, 2)] [2, 2, 5]) := ⟨Tryz.prog, ph230 fu, la230, fun _ => none, pr230, po230, 0, 21⟩
noncomputable def Q230 (fu : Nat) : FQ (nEs [(80, 0), (81, 0), (88, 1), (89, 1), (110, 2), (111, 2)] [2, 2, 5]) := ⟨[.str, .str], [(.int .i64)], fden (cx230 fu) fu Tryz.f265 [.str, .str] [(.int .i64)]⟩
theorem zs230 (fu : Nat) : SoundQ Tryz.prog 265 (Q230 fu) := fden_ok (cx := cx230 fu) (h230 fu) follows ent265 Tryz.func265 rfl rfl
def la231 : Nat → Option Pat := fun _ => none
def pr231 : Nat → List Gh := fun _ => []
def po231 : Nat → List Gh := fun _ => []
noncomputable def ph231 (fu : Nat) : Nat → Option (CQ (nEs [(80, 0), (81, 0), (88, 1), (89, 1), (110, 2), (111, 2)] [2, 2, 5]))
  | 125 => some (.dat (Q229 fu))
  | 134 => some (.dat (Q225 fu))
  | 265 => some (.dat (Q230 fu))
  | _ => none
theorem h231 (fu : Nat) : ∀ f q, ph231 fu f = some q → SoundC Tryz.prog f q := by
  intro f q h
  unfold ph231 at h
  split at h
  · cases h; exact zs229 fu
  · cases h; exact zs225 fu
  · cases h; exact zs230 fu
  · cases h
noncomputable def cx231 (fu : Nat) : Cx (nEs [(80, 0), (81, 0), (88, 1), (89, 1), (110, 2), (111, 2)] [2, 2, 5]) := ⟨Tryz.prog, ph231 fu, la231, fun _ => none, pr231, po231, 0, 40⟩
noncomputable def Q231 (fu : Nat) : FQ (nEs [(80, 0), (81, 0), (88, 1), (89, 1), (110, 2), (111, 2)] [2, 2, 5]) := ⟨[(.st (.sl (.st (.pr .bool (.sl (.st (.pr (.int .u8) (.pr (.int .u8) (.int .i64))))))))), (.st (.sl (.st (.pr .bool (.sl (.st (.pr (.int .u8) (.pr (.int .u8) (.int .i64)))))))))], [(.int .i64)], fden (cx231 fu) fu Tryz.f187 [(.st (.sl (.st (.pr .bool (.sl (.st (.pr (.int .u8) (.pr (.int .u8) (.int .i64))))))))), (.st (.sl (.st (.pr .bool (.sl (.st (.pr (.int .u8) (.pr (.int .u8) (.int .i64)))))))))] [(.int .i64)]⟩
theorem zs231 (fu : Nat) : SoundQ Tryz.prog 187 (Q231 fu) := fden_ok (cx := cx231 fu) (h231 fu) follows ent187 Tryz.func187 rfl rfl
def la232 : Nat → Option Pat
  | 4 => some ⟨[.nat], [(40, .keep), (41, .keep), (42, .cnt 0 400)], [(2, .c 0)], 3⟩
  | _ => none
def pr232 : Nat → List Gh := fun _ => []
def po232 : Nat → List Gh := fun _ => []
noncomputable def ph232 (fu : Nat) : Nat → Option (CQ (nEs [(80, 0), (81, 0), (88, 1), (89, 1), (110, 2), (111, 2)] [2, 2, 5]))
  | 77 => some (.dat (Q197 fu))
  | 185 => some (.dat (Q206 fu))
  | 186 => some (.dat (Q216 fu))
  | 187 => some (.dat (Q231 fu))
  | _ => none
theorem h232 (fu : Nat) : ∀ f q, ph232 fu f = some q → SoundC Tryz.prog f q := by
  intro f q h
  unfold ph232 at h
  split at h
  · cases h; exact zs197 fu
  · cases h; exact zs206 fu
  · cases h; exact zs216 fu
  · cases h; exact zs231 fu
  · cases h
noncomputable def cx232 (fu : Nat) : Cx (nEs [(80, 0), (81, 0), (88, 1), (89, 1), (110, 2), (111, 2)] [2, 2, 5]) := ⟨Tryz.prog, ph232 fu, la232, fun _ => none, pr232, po232, 0, 50⟩
noncomputable def Q232 (fu : Nat) : FQ (nEs [(80, 0), (81, 0), (88, 1), (89, 1), (110, 2), (111, 2)] [2, 2, 5]) := ⟨[(.st (.pr .bool (.pr .bool (.pr .bool (.pr (.st (.pr (.sl (.st (.pr (.int .i64) (.int .i64)))) (.sl (.st (.pr (.int .i64) (.int .i64)))))) (.st (.sl (.st (.pr .bool (.sl (.st (.pr (.int .u8) (.pr (.int .u8) (.int .i64)))))))))))))), (.st (.pr .bool (.pr .bool (.pr .bool (.pr (.st (.pr (.sl (.st (.pr (.int .i64) (.int .i64)))) (.sl (.st (.pr (.int .i64) (.int .i64)))))) (.st (.sl (.st (.pr .bool (.sl (.st (.pr (.int .u8) (.pr (.int .u8) (.int .i64))))))))))))))], [(.int .i64)], fden (cx232 fu) fu Tryz.f121 [(.st (.pr .bool (.pr .bool (.pr .bool (.pr (.st (.pr (.sl (.st (.pr (.int .i64) (.int .i64)))) (.sl (.st (.pr (.int .i64) (.int .i64)))))) (.st (.sl (.st (.pr .bool (.sl (.st (.pr (.int .u8) (.pr (.int .u8) (.int .i64)))))))))))))), (.st (.pr .bool (.pr .bool (.pr .bool (.pr (.st (.pr (.sl (.st (.pr (.int .i64) (.int .i64)))) (.sl (.st (.pr (.int .i64) (.int .i64)))))) (.st (.sl (.st (.pr .bool (.sl (.st (.pr (.int .u8) (.pr (.int .u8) (.int .i64))))))))))))))] [(.int .i64)]⟩
theorem zs232 (fu : Nat) : SoundQ Tryz.prog 121 (Q232 fu) := fden_ok (cx := cx232 fu) (h232 fu) follows ent121 Tryz.func121 rfl rfl
def la233 : Nat → Option Pat := fun _ => none
def pr233 : Nat → List Gh := fun _ => []
def po233 : Nat → List Gh := fun _ => []
def ph233 (_ : Nat) : Nat → Option (CQ (nEs [(80, 0), (81, 0), (88, 1), (89, 1), (110, 2), (111, 2)] [2, 2, 5])) := fun _ => none
theorem h233 (fu : Nat) : ∀ f q, ph233 fu f = some q → SoundC Tryz.prog f q := fun _ _ h => by cases h
noncomputable def cx233 (fu : Nat) : Cx (nEs [(80, 0), (81, 0), (88, 1), (89, 1), (110, 2), (111, 2)] [2, 2, 5]) := ⟨Tryz.prog, ph233 fu, la233, fun _ => none, pr233, po233, 0, 79⟩
noncomputable def Q233 (fu : Nat) : FQ (nEs [(80, 0), (81, 0), (88, 1), (89, 1), (110, 2), (111, 2)] [2, 2, 5]) := ⟨[(.nm 0), (.nm 0)], [(.int .i64)], fden (cx233 fu) fu Tryz.f122 [(.nm 0), (.nm 0)] [(.int .i64)]⟩
theorem zs233 (fu : Nat) : SoundQ Tryz.prog 122 (Q233 fu) := fden_ok (cx := cx233 fu) (h233 fu) follows ent122 Tryz.func122 rfl rfl
def la234 : Nat → Option Pat := fun _ => none
def pr234 : Nat → List Gh := fun _ => []
def po234 : Nat → List Gh := fun _ => []
def ph234 (_ : Nat) : Nat → Option (CQ (nEs [(80, 0), (81, 0), (88, 1), (89, 1), (110, 2), (111, 2)] [2, 2, 5])) := fun _ => none
theorem h234 (fu : Nat) : ∀ f q, ph234 fu f = some q → SoundC Tryz.prog f q := fun _ _ h => by cases h
noncomputable def cx234 (fu : Nat) : Cx (nEs [(80, 0), (81, 0), (88, 1), (89, 1), (110, 2), (111, 2)] [2, 2, 5]) := ⟨Tryz.prog, ph234 fu, la234, fun _ => none, pr234, po234, 0, 11⟩
noncomputable def Q234 (fu : Nat) : FQ (nEs [(80, 0), (81, 0), (88, 1), (89, 1), (110, 2), (111, 2)] [2, 2, 5]) := ⟨[(.int .i64), (.int .i64)], [(.int .i64)], fden (cx234 fu) fu Tryz.f123 [(.int .i64), (.int .i64)] [(.int .i64)]⟩
theorem zs234 (fu : Nat) : SoundQ Tryz.prog 123 (Q234 fu) := fden_ok (cx := cx234 fu) (h234 fu) follows ent123 Tryz.func123 rfl rfl
def la235 : Nat → Option Pat
  | 2 => some ⟨[.nat], [(2, .keep), (3, .keep), (5, .cnt 0 200)], [(1, .c 0), (0, .c 0)], 2⟩
  | _ => none
def pr235 : Nat → List Gh := fun _ => []
def po235 : Nat → List Gh := fun _ => []
def ph235 (_ : Nat) : Nat → Option (CQ (nEs [(80, 0), (81, 0), (88, 1), (89, 1), (110, 2), (111, 2)] [2, 2, 5])) := fun _ => none
theorem h235 (fu : Nat) : ∀ f q, ph235 fu f = some q → SoundC Tryz.prog f q := fun _ _ h => by cases h
noncomputable def cx235 (fu : Nat) : Cx (nEs [(80, 0), (81, 0), (88, 1), (89, 1), (110, 2), (111, 2)] [2, 2, 5]) := ⟨Tryz.prog, ph235 fu, la235, fun _ => none, pr235, po235, 0, 86⟩
noncomputable def Q235 (fu : Nat) : FQ (nEs [(80, 0), (81, 0), (88, 1), (89, 1), (110, 2), (111, 2)] [2, 2, 5]) := ⟨[(.nm 1), (.nm 1)], [(.int .i64)], fden (cx235 fu) fu Tryz.f124 [(.nm 1), (.nm 1)] [(.int .i64)]⟩
theorem zs235 (fu : Nat) : SoundQ Tryz.prog 124 (Q235 fu) := fden_ok (cx := cx235 fu) (h235 fu) follows ent124 Tryz.func124 rfl rfl
def la236 : Nat → Option Pat
  | 9 => some ⟨[.nat], [(2, .keep), (3, .keep), (6, .cnt 0 900)], [(1, .c 0), (0, .c 0)], 2⟩
  | 17 => some ⟨[.nat], [(2, .keep), (3, .keep), (8, .cnt 0 1700)], [(1, .c 0), (0, .c 0)], 2⟩
  | _ => none
def pr236 : Nat → List Gh := fun _ => []
def po236 : Nat → List Gh := fun _ => []
noncomputable def ph236 (fu : Nat) : Nat → Option (CQ (nEs [(80, 0), (81, 0), (88, 1), (89, 1), (110, 2), (111, 2)] [2, 2, 5]))
  | 121 => some (.dat (Q232 fu))
  | 122 => some (.dat (Q233 fu))
  | 123 => some (.dat (Q234 fu))
  | 124 => some (.dat (Q235 fu))
  | _ => none
theorem h236 (fu : Nat) : ∀ f q, ph236 fu f = some q → SoundC Tryz.prog f q := by
  intro f q h
  unfold ph236 at h
  split at h
  · cases h; exact zs232 fu
  · cases h; exact zs233 fu
  · cases h; exact zs234 fu
  · cases h; exact zs235 fu
  · cases h
noncomputable def cx236 (fu : Nat) : Cx (nEs [(80, 0), (81, 0), (88, 1), (89, 1), (110, 2), (111, 2)] [2, 2, 5]) := ⟨Tryz.prog, ph236 fu, la236, fun _ => none, pr236, po236, 0, 102⟩
noncomputable def Q236 (fu : Nat) : FQ (nEs [(80, 0), (81, 0), (88, 1), (89, 1), (110, 2), (111, 2)] [2, 2, 5]) := ⟨[(.st (.pr .bool (.pr (.st (.pr .bool (.pr .bool (.pr .bool (.pr (.st (.pr (.sl (.st (.pr (.int .i64) (.int .i64)))) (.sl (.st (.pr (.int .i64) (.int .i64)))))) (.st (.sl (.st (.pr .bool (.sl (.st (.pr (.int .u8) (.pr (.int .u8) (.int .i64)))))))))))))) (.pr (.sl (.nm 0)) (.sl (.nm 1)))))), (.st (.pr .bool (.pr (.st (.pr .bool (.pr .bool (.pr .bool (.pr (.st (.pr (.sl (.st (.pr (.int .i64) (.int .i64)))) (.sl (.st (.pr (.int .i64) (.int .i64)))))) (.st (.sl (.st (.pr .bool (.sl (.st (.pr (.int .u8) (.pr (.int .u8) (.int .i64)))))))))))))) (.pr (.sl (.nm 0)) (.sl (.nm 1))))))], [(.int .i64)], fden (cx236 fu) fu Tryz.f82 [(.st (.pr .bool (.pr (.st (.pr .bool (.pr .bool (.pr .bool (.pr (.st (.pr (.sl (.st (.pr (.int .i64) (.int .i64)))) (.sl (.st (.pr (.int .i64) (.int .i64)))))) (.st (.sl (.st (.pr .bool (.sl (.st (.pr (.int .u8) (.pr (.int .u8) (.int .i64)))))))))))))) (.pr (.sl (.nm 0)) (.sl (.nm 1)))))), (.st (.pr .bool (.pr (.st (.pr .bool (.pr .bool (.pr .bool (.pr (.st (.pr (.sl (.st (.pr (.int .i64) (.int .i64)))) (.sl (.st (.pr (.int .i64) (.int .i64)))))) (.st (.sl (.st (.pr .bool (.sl (.st (.pr (.int .u8) (.pr (.int .u8) (.int .i64)))))))))))))) (.pr (.sl (.nm 0)) (.sl (.nm 1))))))] [(.int .i64)]⟩
theorem zs236 (fu : Nat) : SoundQ Tryz.prog 82 (Q236 fu) := fden_ok (cx := cx236 fu) (h236 fu) follows ent82 Tryz.func82 rfl rfl
def la237 : Nat → Option Pat := fun _ => none
def pr237 : Nat → List Gh := fun _ => []
def po237 : Nat → List Gh := fun _ => []
noncomputable def ph237 (fu : Nat) : Nat → Option (CQ (nEs [(80, 0), (81, 0), (88, 1), (89, 1), (110, 2), (111, 2)] [2, 2, 5]))
  | 37 => some (.dat (Q202 fu))
  | 82 => some (.dat (Q236 fu))
  | _ => none
theorem h237 (fu : Nat) : ∀ f q, ph237 fu f = some q → SoundC Tryz.prog f q := by
  intro f q h
  unfold ph237 at h
  split at h
  · cases h; exact zs202 fu
  · cases h; exact zs236 fu
  · cases h
noncomputable def cx237 (fu : Nat) : Cx (nEs [(80, 0), (81, 0), (88, 1), (89, 1), (110, 2), (111, 2)] [2, 2, 5]) := ⟨Tryz.prog, ph237 fu, la237, fun _ => none, pr237, po237, 0, 16⟩
noncomputable def Q237 (fu : Nat) : FQ (nEs [(80, 0), (81, 0), (88, 1), (89, 1), (110, 2), (111, 2)] [2, 2, 5]) := ⟨[(.st (.pr .bool (.pr (.st (.pr .bool (.pr .bool (.pr .bool (.pr (.st (.pr (.sl (.st (.pr (.int .i64) (.int .i64)))) (.sl (.st (.pr (.int .i64) (.int .i64)))))) (.st (.sl (.st (.pr .bool (.sl (.st (.pr (.int .u8) (.pr (.int .u8) (.int .i64)))))))))))))) (.pr (.sl (.nm 0)) (.sl (.nm 1)))))), (.st (.pr .bool (.pr (.st (.pr .bool (.pr .bool (.pr .bool (.pr (.st (.pr (.sl (.st (.pr (.int .i64) (.int .i64)))) (.sl (.st (.pr (.int .i64) (.int .i64)))))) (.st (.sl (.st (.pr .bool (.sl (.st (.pr (.int .u8) (.pr (.int .u8) (.int .i64)))))))))))))) (.pr (.sl (.nm 0)) (.sl (.nm 1))))))], [(.int .i64)], fden (cx237 fu) fu Tryz.f53 [(.st (.pr .bool (.pr (.st (.pr .bool (.pr .bool (.pr .bool (.pr (.st (.pr (.sl (.st (.pr (.int .i64) (.int .i64)))) (.sl (.st (.pr (.int .i64) (.int .i64)))))) (.st (.sl (.st (.pr .bool (.sl (.st (.pr (.int .u8) (.pr (.int .u8) (.int .i64)))))))))))))) (.pr (.sl (.nm 0)) (.sl (.nm 1)))))), (.st (.pr .bool (.pr (.st (.pr .bool (.pr .bool (.pr .bool (.pr (.st (.pr (.sl (.st (.pr (.int .i64) (.int .i64)))) (.sl (.st (.pr (.int .i64) (.int .i64)))))) (.st (.sl (.st (.pr .bool (.sl (.st (.pr (.int .u8) (.pr (.int .u8) (.int .i64)))))))))))))) (.pr (.sl (.nm 0)) (.sl (.nm 1))))))] [(.int .i64)]⟩
theorem zs237 (fu : Nat) : SoundQ Tryz.prog 53 (Q237 fu) := fden_ok (cx := cx237 fu) (h237 fu) follows ent53 Tryz.func53 rfl rfl
def la238 : Nat → Option Pat := fun _ => none
def pr238 : Nat → List Gh := fun _ => []
def po238 : Nat → List Gh := fun _ => []
def ph238 (_ : Nat) : Nat → Option (CQ (nEs [(80, 0), (81, 0), (88, 1), (89, 1), (110, 2), (111, 2)] [2, 2, 5])) := fun _ => none
theorem h238 (fu : Nat) : ∀ f q, ph238 fu f = some q → SoundC Tryz.prog f q := fun _ _ h => by cases h
noncomputable def cx238 (fu : Nat) : Cx (nEs [(80, 0), (81, 0), (88, 1), (89, 1), (110, 2), (111, 2)] [2, 2, 5]) := ⟨Tryz.prog, ph238 fu, la238, fun _ => none, pr238, po238, 0, 72⟩
noncomputable def Q238 (fu : Nat) : FQ (nEs [(80, 0), (81, 0), (88, 1), (89, 1), (110, 2), (111, 2)] [2, 2, 5]) := ⟨[(.nm 0), (.nm 0)], [.bool], fden (cx238 fu) fu Tryz.f55 [(.nm 0), (.nm 0)] [.bool]⟩
theorem zs238 (fu : Nat) : SoundQ Tryz.prog 55 (Q238 fu) := fden_ok (cx := cx238 fu) (h238 fu) follows ent55 Tryz.func55 rfl rfl
def la239 : Nat → Option Pat
  | 2 => some ⟨[.nat], [(1, .keep), (3, .cnt 0 200)], [(0, .c 0)], 1⟩
  | _ => none
def pr239 : Nat → List Gh := fun _ => []
def po239 : Nat → List Gh := fun _ => []
def ph239 (_ : Nat) : Nat → Option (CQ (nEs [(80, 0), (81, 0), (88, 1), (89, 1), (110, 2), (111, 2)] [2, 2, 5])) := fun _ => none
theorem h239 (fu : Nat) : ∀ f q, ph239 fu f = some q → SoundC Tryz.prog f q := fun _ _ h => by cases h
noncomputable def cx239 (fu : Nat) : Cx (nEs [(80, 0), (81, 0), (88, 1), (89, 1), (110, 2), (111, 2)] [2, 2, 5]) := ⟨Tryz.prog, ph239 fu, la239, fun _ => none, pr239, po239, 0, 87⟩
noncomputable def Q239 (fu : Nat) : FQ (nEs [(80, 0), (81, 0), (88, 1), (89, 1), (110, 2), (111, 2)] [2, 2, 5]) := ⟨[(.nm 1)], [.bool], fden (cx239 fu) fu Tryz.f56 [(.nm 1)] [.bool]⟩
theorem zs239 (fu : Nat) : SoundQ Tryz.prog 56 (Q239 fu) := fden_ok (cx := cx239 fu) (h239 fu) follows ent56 Tryz.func56 rfl rfl
def la240 : Nat → Option Pat := fun _ => none
def pr240 : Nat → List Gh := fun _ => []
def po240 : Nat → List Gh
  | 1 => [.fzb 2 8]
  | _ => []
def ph240 (_ : Nat) : Nat → Option (CQ (nEs [(80, 0), (81, 0), (88, 1), (89, 1), (110, 2), (111, 2)] [2, 2, 5])) := fun _ => none
theorem h240 (fu : Nat) : ∀ f q, ph240 fu f = some q → SoundC Tryz.prog f q := fun _ _ h => by cases h
noncomputable def cx240 (fu : Nat) : Cx (nEs [(80, 0), (81, 0), (88, 1), (89, 1), (110, 2), (111, 2)] [2, 2, 5]) := ⟨Tryz.prog, ph240 fu, la240, fun _ => none, pr240, po240, 0, 6⟩
noncomputable def Q240 (fu : Nat) : FQ (nEs [(80, 0), (81, 0), (88, 1), (89, 1), (110, 2), (111, 2)] [2, 2, 5]) := ⟨[(.nm 1)], [(.st (.pr .bool (.pr (.st (.pr .bool (.pr .bool (.pr .bool (.pr (.st (.pr (.sl (.st (.pr (.int .i64) (.int .i64)))) (.sl (.st (.pr (.int .i64) (.int .i64)))))) (.st (.sl (.st (.pr .bool (.sl (.st (.pr (.int .u8) (.pr (.int .u8) (.int .i64)))))))))))))) (.pr (.sl (.nm 0)) (.sl (.nm 1))))))], fden (cx240 fu) fu Tryz.f57 [(.nm 1)] [(.st (.pr .bool (.pr (.st (.pr .bool (.pr .bool (.pr .bool (.pr (.st (.pr (.sl (.st (.pr (.int .i64) (.int .i64)))) (.sl (.st (.pr (.int .i64) (.int .i64)))))) (.st (.sl (.st (.pr .bool (.sl (.st (.pr (.int .u8) (.pr (.int .u8) (.int .i64)))))))))))))) (.pr (.sl (.nm 0)) (.sl (.nm 1))))))]⟩
theorem zs240 (fu : Nat) : SoundQ Tryz.prog 57 (Q240 fu) := fden_ok (cx := cx240 fu) (h240 fu) follows ent57 Tryz.func57 rfl rfl
def la241 : Nat → Option Pat
  | 2 => some ⟨[.nat], [(2, .keep), (3, .keep), (5, .cnt 0 200)], [(1, .c 0), (0, .c 0)], 2⟩
  | _ => none
def pr241 : Nat → List Gh := fun _ => []
def po241 : Nat → List Gh := fun _ => []
def ph241 (_ : Nat) : Nat → Option (CQ (nEs [(80, 0), (81, 0), (88, 1), (89, 1), (110, 2), (111, 2)] [2, 2, 5])) := fun _ => none
theorem h241 (fu : Nat) : ∀ f q, ph241 fu f = some q → SoundC Tryz.prog f q := fun _ _ h => by cases h
noncomputable def cx241 (fu : Nat) : Cx (nEs [(80, 0), (81, 0), (88, 1), (89, 1), (110, 2), (111, 2)] [2, 2, 5]) := ⟨Tryz.prog, ph241 fu, la241, fun _ => none, pr241, po241, 0, 88⟩
noncomputable def Q241 (fu : Nat) : FQ (nEs [(80, 0), (81, 0), (88, 1), (89, 1), (110, 2), (111, 2)] [2, 2, 5]) := ⟨[(.nm 1), (.nm 1)], [.bool], fden (cx241 fu) fu Tryz.f58 [(.nm 1), (.nm 1)] [.bool]⟩
theorem zs241 (fu : Nat) : SoundQ Tryz.prog 58 (Q241 fu) := fden_ok (cx := cx241 fu) (h241 fu) follows ent58 Tryz.func58 rfl rfl
def la242 : Nat → Option Pat := fun _ => none
def pr242 : Nat → List Gh := fun _ => []
def po242 : Nat → List Gh
  | 1 => [.fzb 0 0, .fzb 0 1]
  | _ => []
def ph242 (_ : Nat) : Nat → Option (CQ (nEs [(80, 0), (81, 0), (88, 1), (89, 1), (110, 2), (111, 2)] [2, 2, 5])) := fun _ => none
theorem h242 (fu : Nat) : ∀ f q, ph242 fu f = some q → SoundC Tryz.prog f q := fun _ _ h => by cases h
noncomputable def cx242 (fu : Nat) : Cx (nEs [(80, 0), (81, 0), (88, 1), (89, 1), (110, 2), (111, 2)] [2, 2, 5]) := ⟨Tryz.prog, ph242 fu, la242, fun _ => none, pr242, po242, 0, 6⟩
noncomputable def Q242 (fu : Nat) : FQ (nEs [(80, 0), (81, 0), (88, 1), (89, 1), (110, 2), (111, 2)] [2, 2, 5]) := ⟨[], [(.st (.pr (.sl (.st (.pr (.int .i64) (.int .i64)))) (.sl (.st (.pr (.int .i64) (.int .i64))))))], fden (cx242 fu) fu Tryz.f129 [] [(.st (.pr (.sl (.st (.pr (.int .i64) (.int .i64)))) (.sl (.st (.pr (.int .i64) (.int .i64))))))]⟩
theorem zs242 (fu : Nat) : SoundQ Tryz.prog 129 (Q242 fu) := fden_ok (cx := cx242 fu) (h242 fu) follows ent129 Tryz.func129 rfl rfl
def la243 : Nat → Option Pat := fun _ => none
def pr243 : Nat → List Gh := fun _ => []
def po243 : Nat → List Gh
  | 1 => [.fzb 0 0]
  | _ => []
def ph243 (_ : Nat) : Nat → Option (CQ (nEs [(80, 0), (81, 0), (88, 1), (89, 1), (110, 2), (111, 2)] [2, 2, 5])) := fun _ => none
theorem h243 (fu : Nat) : ∀ f q, ph243 fu f = some q → SoundC Tryz.prog f q := fun _ _ h => by cases h
noncomputable def cx243 (fu : Nat) : Cx (nEs [(80, 0), (81, 0), (88, 1), (89, 1), (110, 2), (111, 2)] [2, 2, 5]) := ⟨Tryz.prog, ph243 fu, la243, fun _ => none, pr243, po243, 0, 6⟩
noncomputable def Q243 (fu : Nat) : FQ (nEs [(80, 0), (81, 0), (88, 1), (89, 1), (110, 2), (111, 2)] [2, 2, 5]) := ⟨[], [(.st (.sl (.st (.pr .bool (.sl (.st (.pr (.int .u8) (.pr (.int .u8) (.int .i64)))))))))], fden (cx243 fu) fu Tryz.f130 [] [(.st (.sl (.st (.pr .bool (.sl (.st (.pr (.int .u8) (.pr (.int .u8) (.int .i64)))))))))]⟩
theorem zs243 (fu : Nat) : SoundQ Tryz.prog 130 (Q243 fu) := fden_ok (cx := cx243 fu) (h243 fu) follows ent130 Tryz.func130 rfl rfl
def la244 : Nat → Option Pat := fun _ => none
def pr244 : Nat → List Gh := fun _ => []
def po244 : Nat → List Gh := fun _ => []
noncomputable def ph244 (fu : Nat) : Nat → Option (CQ (nEs [(80, 0), (81, 0), (88, 1), (89, 1), (110, 2), (111, 2)] [2, 2, 5]))
  | 129 => some (.dat (Q242 fu))
  | 130 => some (.dat (Q243 fu))
  | _ => none
theorem h244 (fu : Nat) : ∀ f q, ph244 fu f = some q → SoundC Tryz.prog f q := by
  intro f q h
  unfold ph244 at h
  split at h
  · cases h; exact zs242 fu
  · cases h; exact zs243 fu
  · cases h
noncomputable def cx244 (fu : Nat) : Cx (nEs [(80, 0), (81, 0), (88, 1), (89, 1), (110, 2), (111, 2)] [2, 2, 5]) := ⟨Tryz.prog, ph244 fu, la244, fun _ => none, pr244, po244, 0, 4⟩
noncomputable def Q244 (fu : Nat) : FQ (nEs [(80, 0), (81, 0), (88, 1), (89, 1), (110, 2), (111, 2)] [2, 2, 5]) := ⟨[], [(.st (.pr .bool (.pr .bool (.pr .bool (.pr (.st (.pr (.sl (.st (.pr (.int .i64) (.int .i64)))) (.sl (.st (.pr (.int .i64) (.int .i64)))))) (.st (.sl (.st (.pr .bool (.sl (.st (.pr (.int .u8) (.pr (.int .u8) (.int .i64))))))))))))))], fden (cx244 fu) fu Tryz.f91 [] [(.st (.pr .bool (.pr .bool (.pr .bool (.pr (.st (.pr (.sl (.st (.pr (.int .i64) (.int .i64)))) (.sl (.st (.pr (.int .i64) (.int .i64)))))) (.st (.sl (.st (.pr .bool (.sl (.st (.pr (.int .u8) (.pr (.int .u8) (.int .i64))))))))))))))]⟩
theorem zs244 (fu : Nat) : SoundQ Tryz.prog 91 (Q244 fu) := fden_ok (cx := cx244 fu) (h244 fu) follows ent91 Tryz.func91 rfl rfl
def la245 : Nat → Option Pat := fun _ => none
def pr245 : Nat → List Gh := fun _ => []
def po245 : Nat → List Gh := fun _ => []
noncomputable def ph245 (fu : Nat) : Nat → Option (CQ (nEs [(80, 0), (81, 0), (88, 1), (89, 1), (110, 2), (111, 2)] [2, 2, 5]))
  | 77 => some (.dat (Q197 fu))
  | _ => none
theorem h245 (fu : Nat) : ∀ f q, ph245 fu f = some q → SoundC Tryz.prog f q := by
  intro f q h
  unfold ph245 at h
  split at h
  · cases h; exact zs197 fu
  · cases h
noncomputable def cx245 (fu : Nat) : Cx (nEs [(80, 0), (81, 0), (88, 1), (89, 1), (110, 2), (111, 2)] [2, 2, 5]) := ⟨Tryz.prog, ph245 fu, la245, fun _ => none, pr245, po245, 0, 8⟩
noncomputable def Q245 (fu : Nat) : FQ (nEs [(80, 0), (81, 0), (88, 1), (89, 1), (110, 2), (111, 2)] [2, 2, 5]) := ⟨[(.st (.pr .bool (.pr .bool (.pr .bool (.pr (.st (.pr (.sl (.st (.pr (.int .i64) (.int .i64)))) (.sl (.st (.pr (.int .i64) (.int .i64)))))) (.st (.sl (.st (.pr .bool (.sl (.st (.pr (.int .u8) (.pr (.int .u8) (.int .i64))))))))))))))], [(.st (.pr .bool (.pr .bool (.pr .bool (.pr (.st (.pr (.sl (.st (.pr (.int .i64) (.int .i64)))) (.sl (.st (.pr (.int .i64) (.int .i64)))))) (.st (.sl (.st (.pr .bool (.sl (.st (.pr (.int .u8) (.pr (.int .u8) (.int .i64))))))))))))))], fden (cx245 fu) fu Tryz.f131 [(.st (.pr .bool (.pr .bool (.pr .bool (.pr (.st (.pr (.sl (.st (.pr (.int .i64) (.int .i64)))) (.sl (.st (.pr (.int .i64) (.int .i64)))))) (.st (.sl (.st (.pr .bool (.sl (.st (.pr (.int .u8) (.pr (.int .u8) (.int .i64))))))))))))))] [(.st (.pr .bool (.pr .bool (.pr .bool (.pr (.st (.pr (.sl (.st (.pr (.int .i64) (.int .i64)))) (.sl (.st (.pr (.int .i64) (.int .i64)))))) (.st (.sl (.st (.pr .bool (.sl (.st (.pr (.int .u8) (.pr (.int .u8) (.int .i64))))))))))))))]⟩
theorem zs245 (fu : Nat) : SoundQ Tryz.prog 131 (Q245 fu) := fden_ok (cx := cx245 fu) (h245 fu) follows ent131 Tryz.func131 rfl rfl
def la246 : Nat → Option Pat := fun _ => none
def pr246 : Nat → List Gh := fun _ => []
def po246 : Nat → List Gh := fun _ => []
noncomputable def ph246 (fu : Nat) : Nat → Option (CQ (nEs [(80, 0), (81, 0), (88, 1), (89, 1), (110, 2), (111, 2)] [2, 2, 5]))
  | 131 => some (.dat (Q245 fu))
  | 133 => some (.dat (Q211 fu))
  | 134 => some (.dat (Q225 fu))
  | _ => none
theorem h246 (fu : Nat) : ∀ f q, ph246 fu f = some q → SoundC Tryz.prog f q := by
  intro f q h
  unfold ph246 at h
  split at h
  · cases h; exact zs245 fu
  · cases h; exact zs211 fu
  · cases h; exact zs225 fu
  · cases h
noncomputable def cx246 (fu : Nat) : Cx (nEs [(80, 0), (81, 0), (88, 1), (89, 1), (110, 2), (111, 2)] [2, 2, 5]) := ⟨Tryz.prog, ph246 fu, la246, fun _ => none, pr246, po246, 0, 43⟩
noncomputable def Q246 (fu : Nat) : FQ (nEs [(80, 0), (81, 0), (88, 1), (89, 1), (110, 2), (111, 2)] [2, 2, 5]) := ⟨[(.st (.pr .bool (.pr .bool (.pr .bool (.pr (.st (.pr (.sl (.st (.pr (.int .i64) (.int .i64)))) (.sl (.st (.pr (.int .i64) (.int .i64)))))) (.st (.sl (.st (.pr .bool (.sl (.st (.pr (.int .u8) (.pr (.int .u8) (.int .i64)))))))))))))), (.st (.pr .bool (.pr .bool (.pr .bool (.pr (.st (.pr (.sl (.st (.pr (.int .i64) (.int .i64)))) (.sl (.st (.pr (.int .i64) (.int .i64)))))) (.st (.sl (.st (.pr .bool (.sl (.st (.pr (.int .u8) (.pr (.int .u8) (.int .i64))))))))))))))], [(.st (.pr .bool (.pr .bool (.pr .bool (.pr (.st (.pr (.sl (.st (.pr (.int .i64) (.int .i64)))) (.sl (.st (.pr (.int .i64) (.int .i64)))))) (.st (.sl (.st (.pr .bool (.sl (.st (.pr (.int .u8) (.pr (.int .u8) (.int .i64))))))))))))))], fden (cx246 fu) fu Tryz.f94 [(.st (.pr .bool (.pr .bool (.pr .bool (.pr (.st (.pr (.sl (.st (.pr (.int .i64) (.int .i64)))) (.sl (.st (.pr (.int .i64) (.int .i64)))))) (.st (.sl (.st (.pr .bool (.sl (.st (.pr (.int .u8) (.pr (.int .u8) (.int .i64)))))))))))))), (.st (.pr .bool (.pr .bool (.pr .bool (.pr (.st (.pr (.sl (.st (.pr (.int .i64) (.int .i64)))) (.sl (.st (.pr (.int .i64) (.int .i64)))))) (.st (.sl (.st (.pr .bool (.sl (.st (.pr (.int .u8) (.pr (.int .u8) (.int .i64))))))))))))))] [(.st (.pr .bool (.pr .bool (.pr .bool (.pr (.st (.pr (.sl (.st (.pr (.int .i64) (.int .i64)))) (.sl (.st (.pr (.int .i64) (.int .i64)))))) (.st (.sl (.st (.pr .bool (.sl (.st (.pr (.int .u8) (.pr (.int .u8) (.int .i64))))))))))))))]⟩
theorem zs246 (fu : Nat) : SoundQ Tryz.prog 94 (Q246 fu) := fden_ok (cx := cx246 fu) (h246 fu) follows ent94 Tryz.func94 rfl rfl
def la247 : Nat → Option Pat := fun _ => none
def pr247 : Nat → List Gh := fun _ => []
def po247 : Nat → List Gh := fun _ => []
noncomputable def ph247 (fu : Nat) : Nat → Option (CQ (nEs [(80, 0), (81, 0), (88, 1), (89, 1), (110, 2), (111, 2)] [2, 2, 5]))
  | 179 => some (.dat (Q180 fu))
  | _ => none
theorem h247 (fu : Nat) : ∀ f q, ph247 fu f = some q → SoundC Tryz.prog f q := by
  intro f q h
  unfold ph247 at h
  split at h
  · cases h; exact zs180 fu
  · cases h
noncomputable def cx247 (fu : Nat) : Cx (nEs [(80, 0), (81, 0), (88, 1), (89, 1), (110, 2), (111, 2)] [2, 2, 5]) := ⟨Tryz.prog, ph247 fu, la247, fun _ => none, pr247, po247, 0, 16⟩
noncomputable def Q247 (fu : Nat) : FQ (nEs [(80, 0), (81, 0), (88, 1), (89, 1), (110, 2), (111, 2)] [2, 2, 5]) := ⟨[(.st (.pr (.sl (.st (.pr (.int .i64) (.int .i64)))) (.sl (.st (.pr (.int .i64) (.int .i64))))))], [.bool], fden (cx247 fu) fu Tryz.f132 [(.st (.pr (.sl (.st (.pr (.int .i64) (.int .i64)))) (.sl (.st (.pr (.int .i64) (.int .i64))))))] [.bool]⟩
theorem zs247 (fu : Nat) : SoundQ Tryz.prog 132 (Q247 fu) := fden_ok (cx := cx247 fu) (h247 fu) follows ent132 Tryz.func132 rfl rfl
def la248 : Nat → Option Pat := fun _ => none
def pr248 : Nat → List Gh := fun _ => []
def po248 : Nat → List Gh := fun _ => []
noncomputable def ph248 (fu : Nat) : Nat → Option (CQ (nEs [(80, 0), (81, 0), (88, 1), (89, 1), (110, 2), (111, 2)] [2, 2, 5]))
  | 131 => some (.dat (Q245 fu))
  | 132 => some (.dat (Q247 fu))
  | _ => none
theorem h248 (fu : Nat) : ∀ f q, ph248 fu f = some q → SoundC Tryz.prog f q := by
  intro f q h
  unfold ph248 at h
  split at h
  · cases h; exact zs245 fu
  · cases h; exact zs247 fu
  · cases h
noncomputable def cx248 (fu : Nat) : Cx (nEs [(80, 0), (81, 0), (88, 1), (89, 1), (110, 2), (111, 2)] [2, 2, 5]) := ⟨Tryz.prog, ph248 fu, la248, fun _ => none, pr248, po248, 0, 31⟩
noncomputable def Q248 (fu : Nat) : FQ (nEs [(80, 0), (81, 0), (88, 1), (89, 1), (110, 2), (111, 2)] [2, 2, 5]) := ⟨[(.st (.pr .bool (.pr .bool (.pr .bool (.pr (.st (.pr (.sl (.st (.pr (.int .i64) (.int .i64)))) (.sl (.st (.pr (.int .i64) (.int .i64)))))) (.st (.sl (.st (.pr .bool (.sl (.st (.pr (.int .u8) (.pr (.int .u8) (.int .i64))))))))))))))], [.bool], fden (cx248 fu) fu Tryz.f93 [(.st (.pr .bool (.pr .bool (.pr .bool (.pr (.st (.pr (.sl (.st (.pr (.int .i64) (.int .i64)))) (.sl (.st (.pr (.int .i64) (.int .i64)))))) (.st (.sl (.st (.pr .bool (.sl (.st (.pr (.int .u8) (.pr (.int .u8) (.int .i64))))))))))))))] [.bool]⟩
theorem zs248 (fu : Nat) : SoundQ Tryz.prog 93 (Q248 fu) := fden_ok (cx := cx248 fu) (h248 fu) follows ent93 Tryz.func93 rfl rfl
def la249 : Nat → Option Pat := fun _ => none
def pr249 : Nat → List Gh := fun _ => []
def po249 : Nat → List Gh := fun _ => []
noncomputable def ph249 (fu : Nat) : Nat → Option (CQ (nEs [(80, 0), (81, 0), (88, 1), (89, 1), (110, 2), (111, 2)] [2, 2, 5]))
  | 93 => some (.dat (Q248 fu))
  | 94 => some (.dat (Q246 fu))
  | _ => none
theorem h249 (fu : Nat) : ∀ f q, ph249 fu f = some q → SoundC Tryz.prog f q := by
  intro f q h
  unfold ph249 at h
  split at h
  · cases h; exact zs248 fu
  · cases h; exact zs246 fu
  · cases h
noncomputable def cx249 (fu : Nat) : Cx (nEs [(80, 0), (81, 0), (88, 1), (89, 1), (110, 2), (111, 2)] [2, 2, 5]) := ⟨Tryz.prog, ph249 fu, la249, fun _ => none, pr249, po249, 0, 9⟩
noncomputable def Q249 (fu : Nat) : FQ (nEs [(80, 0), (81, 0), (88, 1), (89, 1), (110, 2), (111, 2)] [2, 2, 5]) := ⟨[(.st (.pr .bool (.pr .bool (.pr .bool (.pr (.st (.pr (.sl (.st (.pr (.int .i64) (.int .i64)))) (.sl (.st (.pr (.int .i64) (.int .i64)))))) (.st (.sl (.st (.pr .bool (.sl (.st (.pr (.int .u8) (.pr (.int .u8) (.int .i64)))))))))))))), (.st (.pr .bool (.pr .bool (.pr .bool (.pr (.st (.pr (.sl (.st (.pr (.int .i64) (.int .i64)))) (.sl (.st (.pr (.int .i64) (.int .i64)))))) (.st (.sl (.st (.pr .bool (.sl (.st (.pr (.int .u8) (.pr (.int .u8) (.int .i64))))))))))))))], [.bool], fden (cx249 fu) fu Tryz.f60 [(.st (.pr .bool (.pr .bool (.pr .bool (.pr (.st (.pr (.sl (.st (.pr (.int .i64) (.int .i64)))) (.sl (.st (.pr (.int .i64) (.int .i64)))))) (.st (.sl (.st (.pr .bool (.sl (.st (.pr (.int .u8) (.pr (.int .u8) (.int .i64)))))))))))))), (.st (.pr .bool (.pr .bool (.pr .bool (.pr (.st (.pr (.sl (.st (.pr (.int .i64) (.int .i64)))) (.sl (.st (.pr (.int .i64) (.int .i64)))))) (.st (.sl (.st (.pr .bool (.sl (.st (.pr (.int .u8) (.pr (.int .u8) (.int .i64))))))))))))))] [.bool]⟩
theorem zs249 (fu : Nat) : SoundQ Tryz.prog 60 (Q249 fu) := fden_ok (cx := cx249 fu) (h249 fu) follows ent60 Tryz.func60 rfl rfl
def la250 : Nat → Option Pat := fun _ => none
def pr250 : Nat → List Gh := fun _ => []
def po250 : Nat → List Gh := fun _ => []
noncomputable def ph250 (fu : Nat) : Nat → Option (CQ (nEs [(80, 0), (81, 0), (88, 1), (89, 1), (110, 2), (111, 2)] [2, 2, 5]))
  | 60 => some (.dat (Q249 fu))
  | 91 => some (.dat (Q244 fu))
  | _ => none
theorem h250 (fu : Nat) : ∀ f q, ph250 fu f = some q → SoundC Tryz.prog f q := by
  intro f q h
  unfold ph250 at h
  split at h
  · cases h; exact zs249 fu
  · cases h; exact zs244 fu
  · cases h
noncomputable def cx250 (fu : Nat) : Cx (nEs [(80, 0), (81, 0), (88, 1), (89, 1), (110, 2), (111, 2)] [2, 2, 5]) := ⟨Tryz.prog, ph250 fu, la250, fun _ => none, pr250, po250, 0, 69⟩
noncomputable def Q250 (fu : Nat) : FQ (nEs [(80, 0), (81, 0), (88, 1), (89, 1), (110, 2), (111, 2)] [2, 2, 5]) := ⟨[(.st (.pr .bool (.pr (.st (.pr .bool (.pr .bool (.pr .bool (.pr (.st (.pr (.sl (.st (.pr (.int .i64) (.int .i64)))) (.sl (.st (.pr (.int .i64) (.int .i64)))))) (.st (.sl (.st (.pr .bool (.sl (.st (.pr (.int .u8) (.pr (.int .u8) (.int .i64)))))))))))))) (.pr (.sl (.nm 0)) (.sl (.nm 1))))))], [.bool], fden (cx250 fu) fu Tryz.f59 [(.st (.pr .bool (.pr (.st (.pr .bool (.pr .bool (.pr .bool (.pr (.st (.pr (.sl (.st (.pr (.int .i64) (.int .i64)))) (.sl (.st (.pr (.int .i64) (.int .i64)))))) (.st (.sl (.st (.pr .bool (.sl (.st (.pr (.int .u8) (.pr (.int .u8) (.int .i64)))))))))))))) (.pr (.sl (.nm 0)) (.sl (.nm 1))))))] [.bool]⟩
theorem zs250 (fu : Nat) : SoundQ Tryz.prog 59 (Q250 fu) := fden_ok (cx := cx250 fu) (h250 fu) follows ent59 Tryz.func59 rfl rfl
def la251 : Nat → Option Pat
  | 2 => some ⟨[.nat], [(1, .keep), (3, .cnt 0 200)], [(0, .c 0)], 1⟩
  | 7 => some ⟨[.nat], [(1, .keep), (3, .keep), (4, .cnt 0 700)], [(0, .c 0)], 1⟩
  | 12 => some ⟨[.nat], [(1, .keep), (5, .cnt 0 1200)], [(0, .c 0)], 1⟩
  | 17 => some ⟨[.nat], [(1, .keep), (5, .keep), (6, .cnt 0 1700)], [(0, .c 0)], 1⟩
  | _ => none
def pr251 : Nat → List Gh := fun _ => []
def po251 : Nat → List Gh := fun _ => []
noncomputable def ph251 (fu : Nat) : Nat → Option (CQ (nEs [(80, 0), (81, 0), (88, 1), (89, 1), (110, 2), (111, 2)] [2, 2, 5]))
  | 52 => some (.dat (Q204 fu))
  | 53 => some (.dat (Q237 fu))
  | 54 => some (.dat (Q205 fu))
  | 55 => some (.dat (Q238 fu))
  | 56 => some (.dat (Q239 fu))
  | 57 => some (.dat (Q240 fu))
  | 58 => some (.dat (Q241 fu))
  | 59 => some (.dat (Q250 fu))
  | _ => none
theorem h251 (fu : Nat) : ∀ f q, ph251 fu f = some q → SoundC Tryz.prog f q := by
  intro f q h
  unfold ph251 at h
  split at h
  · cases h; exact zs204 fu
  · cases h; exact zs237 fu
  · cases h; exact zs205 fu
  · cases h; exact zs238 fu
  · cases h; exact zs239 fu
  · cases h; exact zs240 fu
  · cases h; exact zs241 fu
  · cases h; exact zs250 fu
  · cases h
noncomputable def cx251 (fu : Nat) : Cx (nEs [(80, 0), (81, 0), (88, 1), (89, 1), (110, 2), (111, 2)] [2, 2, 5]) := ⟨Tryz.prog, ph251 fu, la251, fun _ => none, pr251, po251, 0, 126⟩
noncomputable def Q251 (fu : Nat) : FQ (nEs [(80, 0), (81, 0), (88, 1), (89, 1), (110, 2), (111, 2)] [2, 2, 5]) := ⟨[(.st (.pr .bool (.pr (.st (.pr .bool (.pr .bool (.pr .bool (.pr (.st (.pr (.sl (.st (.pr (.int .i64) (.int .i64)))) (.sl (.st (.pr (.int .i64) (.int .i64)))))) (.st (.sl (.st (.pr .bool (.sl (.st (.pr (.int .u8) (.pr (.int .u8) (.int .i64)))))))))))))) (.pr (.sl (.nm 0)) (.sl (.nm 1))))))], [.bool], fden (cx251 fu) fu Tryz.f38 [(.st (.pr .bool (.pr (.st (.pr .bool (.pr .bool (.pr .bool (.pr (.st (.pr (.sl (.st (.pr (.int .i64) (.int .i64)))) (.sl (.st (.pr (.int .i64) (.int .i64)))))) (.st (.sl (.st (.pr .bool (.sl (.st (.pr (.int .u8) (.pr (.int .u8) (.int .i64)))))))))))))) (.pr (.sl (.nm 0)) (.sl (.nm 1))))))] [.bool]⟩
theorem zs251 (fu : Nat) : SoundQ Tryz.prog 38 (Q251 fu) := fden_ok (cx := cx251 fu) (h251 fu) follows ent38 Tryz.func38 rfl rfl
def la252 : Nat → Option Pat
  | 6 => some ⟨[.nat], [(2, .keep), (3, .keep), (5, .cnt 0 600)], [(1, .c 0), (0, .c 0)], 2⟩
  | 10 => some ⟨[.dat .bool, .nat], [(2, .keep), (3, .keep), (5, .keep), (6, .v 0 .bool), (7, .cnt 1 1001)], [(1, .c 0), (0, .c 0)], 2⟩
  | 16 => some ⟨[.nat], [(2, .keep), (3, .keep), (8, .cnt 0 1600)], [(1, .c 0), (0, .c 0)], 2⟩
  | 20 => some ⟨[.dat .bool, .nat], [(2, .keep), (3, .keep), (8, .keep), (9, .v 0 .bool), (10, .cnt 1 2001)], [(1, .c 0), (0, .c 0)], 2⟩
  | _ => none
def pr252 : Nat → List Gh := fun _ => []
def po252 : Nat → List Gh := fun _ => []
noncomputable def ph252 (fu : Nat) : Nat → Option (CQ (nEs [(80, 0), (81, 0), (88, 1), (89, 1), (110, 2), (111, 2)] [2, 2, 5]))
  | 55 => some (.dat (Q238 fu))
  | 58 => some (.dat (Q241 fu))
  | 60 => some (.dat (Q249 fu))
  | _ => none
theorem h252 (fu : Nat) : ∀ f q, ph252 fu f = some q → SoundC Tryz.prog f q := by
  intro f q h
  unfold ph252 at h
  split at h
  · cases h; exact zs238 fu
  · cases h; exact zs241 fu
  · cases h; exact zs249 fu
  · cases h
noncomputable def cx252 (fu : Nat) : Cx (nEs [(80, 0), (81, 0), (88, 1), (89, 1), (110, 2), (111, 2)] [2, 2, 5]) := ⟨Tryz.prog, ph252 fu, la252, fun _ => none, pr252, po252, 0, 87⟩
noncomputable def Q252 (fu : Nat) : FQ (nEs [(80, 0), (81, 0), (88, 1), (89, 1), (110, 2), (111, 2)] [2, 2, 5]) := ⟨[(.st (.pr .bool (.pr (.st (.pr .bool (.pr .bool (.pr .bool (.pr (.st (.pr (.sl (.st (.pr (.int .i64) (.int .i64)))) (.sl (.st (.pr (.int .i64) (.int .i64)))))) (.st (.sl (.st (.pr .bool (.sl (.st (.pr (.int .u8) (.pr (.int .u8) (.int .i64)))))))))))))) (.pr (.sl (.nm 0)) (.sl (.nm 1)))))), (.st (.pr .bool (.pr (.st (.pr .bool (.pr .bool (.pr .bool (.pr (.st (.pr (.sl (.st (.pr (.int .i64) (.int .i64)))) (.sl (.st (.pr (.int .i64) (.int .i64)))))) (.st (.sl (.st (.pr .bool (.sl (.st (.pr (.int .u8) (.pr (.int .u8) (.int .i64)))))))))))))) (.pr (.sl (.nm 0)) (.sl (.nm 1))))))], [.bool], fden (cx252 fu) fu Tryz.f39 [(.st (.pr .bool (.pr (.st (.pr .bool (.pr .bool (.pr .bool (.pr (.st (.pr (.sl (.st (.pr (.int .i64) (.int .i64)))) (.sl (.st (.pr (.int .i64) (.int .i64)))))) (.st (.sl (.st (.pr .bool (.sl (.st (.pr (.int .u8) (.pr (.int .u8) (.int .i64)))))))))))))) (.pr (.sl (.nm 0)) (.sl (.nm 1)))))), (.st (.pr .bool (.pr (.st (.pr .bool (.pr .bool (.pr .bool (.pr (.st (.pr (.sl (.st (.pr (.int .i64) (.int .i64)))) (.sl (.st (.pr (.int .i64) (.int .i64)))))) (.st (.sl (.st (.pr .bool (.sl (.st (.pr (.int .u8) (.pr (.int .u8) (.int .i64)))))))))))))) (.pr (.sl (.nm 0)) (.sl (.nm 1))))))] [.bool]⟩
theorem zs252 (fu : Nat) : SoundQ Tryz.prog 39 (Q252 fu) := fden_ok (cx := cx252 fu) (h252 fu) follows ent39 Tryz.func39 rfl rfl
def la253 : Nat → Option Pat := fun _ => none
def pr253 : Nat → List Gh := fun _ => []
def po253 : Nat → List Gh := fun _ => []
noncomputable def ph253 (fu : Nat) : Nat → Option (CQ (nEs [(80, 0), (81, 0), (88, 1), (89, 1), (110, 2), (111, 2)] [2, 2, 5]))
  | 38 => some (.dat (Q251 fu))
  | 39 => some (.dat (Q252 fu))
  | _ => none
theorem h253 (fu : Nat) : ∀ f q, ph253 fu f = some q → SoundC Tryz.prog f q := by
  intro f q h
  unfold ph253 at h
  split at h
  · cases h; exact zs251 fu
  · cases h; exact zs252 fu
  · cases h
noncomputable def cx253 (fu : Nat) : Cx (nEs [(80, 0), (81, 0), (88, 1), (89, 1), (110, 2), (111, 2)] [2, 2, 5]) := ⟨Tryz.prog, ph253 fu, la253, fun _ => none, pr253, po253, 0, 18⟩
noncomputable def Q253 (fu : Nat) : FQ (nEs [(80, 0), (81, 0), (88, 1), (89, 1), (110, 2), (111, 2)] [2, 2, 5]) := ⟨[(.st (.pr (.st (.pr .bool (.pr (.st (.pr .bool (.pr .bool (.pr .bool (.pr (.st (.pr (.sl (.st (.pr (.int .i64) (.int .i64)))) (.sl (.st (.pr (.int .i64) (.int .i64)))))) (.st (.sl (.st (.pr .bool (.sl (.st (.pr (.int .u8) (.pr (.int .u8) (.int .i64)))))))))))))) (.pr (.sl (.nm 0)) (.sl (.nm 1)))))) (.st (.pr .bool (.pr (.st (.pr .bool (.pr .bool (.pr .bool (.pr (.st (.pr (.sl (.st (.pr (.int .i64) (.int .i64)))) (.sl (.st (.pr (.int .i64) (.int .i64)))))) (.st (.sl (.st (.pr .bool (.sl (.st (.pr (.int .u8) (.pr (.int .u8) (.int .i64)))))))))))))) (.pr (.sl (.nm 0)) (.sl (.nm 1))))))))], [.bool], fden (cx253 fu) fu Tryz.f20 [(.st (.pr (.st (.pr .bool (.pr (.st (.pr .bool (.pr .bool (.pr .bool (.pr (.st (.pr (.sl (.st (.pr (.int .i64) (.int .i64)))) (.sl (.st (.pr (.int .i64) (.int .i64)))))) (.st (.sl (.st (.pr .bool (.sl (.st (.pr (.int .u8) (.pr (.int .u8) (.int .i64)))))))))))))) (.pr (.sl (.nm 0)) (.sl (.nm 1)))))) (.st (.pr .bool (.pr (.st (.pr .bool (.pr .bool (.pr .bool (.pr (.st (.pr (.sl (.st (.pr (.int .i64) (.int .i64)))) (.sl (.st (.pr (.int .i64) (.int .i64)))))) (.st (.sl (.st (.pr .bool (.sl (.st (.pr (.int .u8) (.pr (.int .u8) (.int .i64)))))))))))))) (.pr (.sl (.nm 0)) (.sl (.nm 1))))))))] [.bool]⟩
theorem zs253 (fu : Nat) : SoundQ Tryz.prog 20 (Q253 fu) := fden_ok (cx := cx253 fu) (h253 fu) follows ent20 Tryz.func20 rfl rfl
def la254 : Nat → Option Pat := fun _ => none
def pr254 : Nat → List Gh := fun _ => []
def po254 : Nat → List Gh := fun _ => []
noncomputable def ph254 (fu : Nat) : Nat → Option (CQ (nEs [(80, 0), (81, 0), (88, 1), (89, 1), (110, 2), (111, 2)] [2, 2, 5]))
  | 19 => some (.dat (Q203 fu))
  | 20 => some (.dat (Q253 fu))
  | _ => none
theorem h254 (fu : Nat) : ∀ f q, ph254 fu f = some q → SoundC Tryz.prog f q := by
  intro f q h
  unfold ph254 at h
  split at h
  · cases h; exact zs203 fu
  · cases h; exact zs253 fu
  · cases h
noncomputable def cx254 (fu : Nat) : Cx (nEs [(80, 0), (81, 0), (88, 1), (89, 1), (110, 2), (111, 2)] [2, 2, 5]) := ⟨Tryz.prog, ph254 fu, la254, fun _ => none, pr254, po254, 0, 9⟩
noncomputable def Q254 (fu : Nat) : FQ (nEs [(80, 0), (81, 0), (88, 1), (89, 1), (110, 2), (111, 2)] [2, 2, 5]) := ⟨[(.st (.pr (.st (.pr .bool (.pr (.st (.pr .bool (.pr .bool (.pr .bool (.pr (.st (.pr (.sl (.st (.pr (.int .i64) (.int .i64)))) (.sl (.st (.pr (.int .i64) (.int .i64)))))) (.st (.sl (.st (.pr .bool (.sl (.st (.pr (.int .u8) (.pr (.int .u8) (.int .i64)))))))))))))) (.pr (.sl (.nm 0)) (.sl (.nm 1)))))) (.st (.pr .bool (.pr (.st (.pr .bool (.pr .bool (.pr .bool (.pr (.st (.pr (.sl (.st (.pr (.int .i64) (.int .i64)))) (.sl (.st (.pr (.int .i64) (.int .i64)))))) (.st (.sl (.st (.pr .bool (.sl (.st (.pr (.int .u8) (.pr (.int .u8) (.int .i64)))))))))))))) (.pr (.sl (.nm 0)) (.sl (.nm 1))))))))], [.bool], fden (cx254 fu) fu Tryz.f11 [(.st (.pr (.st (.pr .bool (.pr (.st (.pr .bool (.pr .bool (.pr .bool (.pr (.st (.pr (.sl (.st (.pr (.int .i64) (.int .i64)))) (.sl (.st (.pr (.int .i64) (.int .i64)))))) (.st (.sl (.st (.pr .bool (.sl (.st (.pr (.int .u8) (.pr (.int .u8) (.int .i64)))))))))))))) (.pr (.sl (.nm 0)) (.sl (.nm 1)))))) (.st (.pr .bool (.pr (.st (.pr .bool (.pr .bool (.pr .bool (.pr (.st (.pr (.sl (.st (.pr (.int .i64) (.int .i64)))) (.sl (.st (.pr (.int .i64) (.int .i64)))))) (.st (.sl (.st (.pr .bool (.sl (.st (.pr (.int .u8) (.pr (.int .u8) (.int .i64)))))))))))))) (.pr (.sl (.nm 0)) (.sl (.nm 1))))))))] [.bool]⟩
theorem zs254 (fu : Nat) : SoundQ Tryz.prog 11 (Q254 fu) := fden_ok (cx := cx254 fu) (h254 fu) follows ent11 Tryz.func11 rfl rfl
end Go.GV
