/- Part 13 of the texts of this claim: what its theorem leans on. -/
import Derived.Test.YtlijhnfnceidjaaGreatDoorZConflictSizes7
import Derived.Test.YtlijhnfnceidjaaGreatDoorZConflictSizes8
import Derived.Test.YtlijhnfnceidjaaGreatDoorZConflictSizes9
import Derived.Test.YtlijhnfnceidjaaGreatDoorZConflictSizes10
import Derived.Test.YtlijhnfnceidjaaGreatDoorZConflictSizes11
import Derived.Test.YtlijhnfnceidjaaGreatDoorZConflictSizes12
import Derived.KernelRfl
import Derived.Test.YtlijhnfnceidjaaGreatDoorZConflictSizes3
import Derived.Test.YtlijhnfnceidjaaGreatDoorZConflictSizes4
namespace Go.GV
open Go Go.GK Go.Proofs
theorem ta151 : AllT (β := Bool) (Q151 20).F d2 [(11, true), (22, true), (33, true), (44, true), (1, false)] := (.cons tb151_0 (.cons tb151_1 (.cons tb151_2 (.cons tb151_3 (.cons tb151_4 .nil)))))
theorem tg151 : ∀ (x : VAL × VAL) (y : Bool), tabK k2 [(11, true), (22, true), (33, true), (44, true), (1, false)] x = some y → @Eq (Option (Bool)) ((Q151 20).F x) (some y) := tabG (fun h => (k2_ok h).2) ta151
noncomputable def T151 (_ : Nat) : FQ (nEs [(80, 0), (81, 0), (88, 1), (89, 1), (110, 2), (111, 2)] [2, 2, 5]) := ⟨(Q151 20).ps, (Q151 20).rs, fun x => tabK (α := VAL × VAL) (β := Bool) k2 [(11, true), (22, true), (33, true), (44, true), (1, false)] x⟩
theorem zt151 (fu : Nat) : SoundQ Tryz.prog 21 (T151 fu) := tabQ (zs151 20) _ tg151
theorem ta169 : AllT (β := (VAL × VAL) × Int) (Q169 20).F d4 [(2222, ((w2, w2), 0)), (2211, ((wB, wB), 0)), (4422, ((w2, w2), 0)), (4411, ((w1, w1), 0)), (4433, ((w9, w9), 0)), (3311, ((w1, w1), 0)), (3322, ((w2, w2), 0))] := (.cons tb169_0 (.cons tb169_1 (.cons tb169_2 (.cons tb169_3 (.cons tb169_4 (.cons tb169_5 (.cons tb169_6 .nil)))))))
theorem tg169 : ∀ (x : (VAL × VAL) × (VAL × VAL)) (y : (VAL × VAL) × Int), tabK k4 [(2222, ((w2, w2), 0)), (2211, ((wB, wB), 0)), (4422, ((w2, w2), 0)), (4411, ((w1, w1), 0)), (4433, ((w9, w9), 0)), (3311, ((w1, w1), 0)), (3322, ((w2, w2), 0))] x = some y → @Eq (Option ((VAL × VAL) × Int)) ((Q169 20).F x) (some y) := tabG (fun h => k4_ok h) ta169
noncomputable def T169 (_ : Nat) : FQ (nEs [(80, 0), (81, 0), (88, 1), (89, 1), (110, 2), (111, 2)] [2, 2, 5]) := ⟨(Q169 20).ps, (Q169 20).rs, fun x => tabK (α := (VAL × VAL) × (VAL × VAL)) (β := (VAL × VAL) × Int) k4 [(2222, ((w2, w2), 0)), (2211, ((wB, wB), 0)), (4422, ((w2, w2), 0)), (4411, ((w1, w1), 0)), (4433, ((w9, w9), 0)), (3311, ((w1, w1), 0)), (3322, ((w2, w2), 0))] x⟩
theorem zt169 (fu : Nat) : SoundQ Tryz.prog 33 (T169 fu) := tabQ (zs169 20) _ tg169
theorem ta170 : AllT (β := Bool) (Q170 20).F dV [(2, false), (0, true), (1, false), (3, false)] := (.cons tb170_0 (.cons tb170_1 (.cons tb170_2 (.cons tb170_3 .nil))))
theorem tg170 : ∀ (x : VAL) (y : Bool), tabK kV [(2, false), (0, true), (1, false), (3, false)] x = some y → @Eq (Option (Bool)) ((Q170 20).F x) (some y) := tabG (fun h => (kV_ok h).2) ta170
noncomputable def T170 (_ : Nat) : FQ (nEs [(80, 0), (81, 0), (88, 1), (89, 1), (110, 2), (111, 2)] [2, 2, 5]) := ⟨(Q170 20).ps, (Q170 20).rs, fun x => tabK (α := VAL) (β := Bool) kV [(2, false), (0, true), (1, false), (3, false)] x⟩
theorem zt170 (fu : Nat) : SoundQ Tryz.prog 34 (T170 fu) := tabQ (zs170 20) _ tg170
theorem ta254 : AllT (β := Bool) (Q254 300).F d2 [(11, true)] := (.cons tb254_0 .nil)
theorem tg254 : ∀ (x : VAL × VAL) (y : Bool), tabK k2 [(11, true)] x = some y → @Eq (Option (Bool)) ((Q254 300).F x) (some y) := tabG (fun h => (k2_ok h).2) ta254
noncomputable def T254 (_ : Nat) : FQ (nEs [(80, 0), (81, 0), (88, 1), (89, 1), (110, 2), (111, 2)] [2, 2, 5]) := ⟨(Q254 300).ps, (Q254 300).rs, fun x => tabK (α := VAL × VAL) (β := Bool) k2 [(11, true)] x⟩
theorem zt254 (fu : Nat) : SoundQ Tryz.prog 11 (T254 fu) := tabQ (zs254 300) _ tg254
end Go.GV
namespace Go.GV
open Go Go.GK Go.Proofs
def la255 : Nat → Option Pat := fun _ => none
def pr255 : Nat → List Gh := fun _ => []
def po255 : Nat → List Gh := fun _ => []
def ph255 (_ : Nat) : Nat → Option (CQ (nEs [(80, 0), (81, 0), (88, 1), (89, 1), (110, 2), (111, 2)] [2, 2, 5])) := fun _ => none
theorem h255 (fu : Nat) : ∀ f q, ph255 fu f = some q → SoundC Tryz.prog f q := fun _ _ h => by cases h
noncomputable def cx255 (fu : Nat) : Cx (nEs [(80, 0), (81, 0), (88, 1), (89, 1), (110, 2), (111, 2)] [2, 2, 5]) := ⟨Tryz.prog, ph255 fu, la255, fun _ => none, pr255, po255, 0, 6⟩
noncomputable def Q255 (fu : Nat) : FQ (nEs [(80, 0), (81, 0), (88, 1), (89, 1), (110, 2), (111, 2)] [2, 2, 5]) := ⟨[(.st (.pr .bool (.pr (.st (.pr .bool (.pr .bool (.pr .bool (.pr (.st (.pr (.sl (.st (.pr (.int .i64) (.int .i64)))) (.sl (.st (.pr (.int .i64) (.int .i64)))))) (.st (.sl (.st (.pr .bool (.sl (.st (.pr (.int .u8) (.pr (.int .u8) (.int .i64)))))))))))))) (.pr (.sl (.nm 0)) (.sl (.nm 1))))))], [(.st (.pr (.st (.pr .bool (.pr (.st (.pr .bool (.pr .bool (.pr .bool (.pr (.st (.pr (.sl (.st (.pr (.int .i64) (.int .i64)))) (.sl (.st (.pr (.int .i64) (.int .i64)))))) (.st (.sl (.st (.pr .bool (.sl (.st (.pr (.int .u8) (.pr (.int .u8) (.int .i64)))))))))))))) (.pr (.sl (.nm 0)) (.sl (.nm 1)))))) (.st (.pr .bool (.pr (.st (.pr .bool (.pr .bool (.pr .bool (.pr (.st (.pr (.sl (.st (.pr (.int .i64) (.int .i64)))) (.sl (.st (.pr (.int .i64) (.int .i64)))))) (.st (.sl (.st (.pr .bool (.sl (.st (.pr (.int .u8) (.pr (.int .u8) (.int .i64)))))))))))))) (.pr (.sl (.nm 0)) (.sl (.nm 1))))))))], fden (cx255 fu) fu Tryz.f13 [(.st (.pr .bool (.pr (.st (.pr .bool (.pr .bool (.pr .bool (.pr (.st (.pr (.sl (.st (.pr (.int .i64) (.int .i64)))) (.sl (.st (.pr (.int .i64) (.int .i64)))))) (.st (.sl (.st (.pr .bool (.sl (.st (.pr (.int .u8) (.pr (.int .u8) (.int .i64)))))))))))))) (.pr (.sl (.nm 0)) (.sl (.nm 1))))))] [(.st (.pr (.st (.pr .bool (.pr (.st (.pr .bool (.pr .bool (.pr .bool (.pr (.st (.pr (.sl (.st (.pr (.int .i64) (.int .i64)))) (.sl (.st (.pr (.int .i64) (.int .i64)))))) (.st (.sl (.st (.pr .bool (.sl (.st (.pr (.int .u8) (.pr (.int .u8) (.int .i64)))))))))))))) (.pr (.sl (.nm 0)) (.sl (.nm 1)))))) (.st (.pr .bool (.pr (.st (.pr .bool (.pr .bool (.pr .bool (.pr (.st (.pr (.sl (.st (.pr (.int .i64) (.int .i64)))) (.sl (.st (.pr (.int .i64) (.int .i64)))))) (.st (.sl (.st (.pr .bool (.sl (.st (.pr (.int .u8) (.pr (.int .u8) (.int .i64)))))))))))))) (.pr (.sl (.nm 0)) (.sl (.nm 1))))))))]⟩
theorem zs255 (fu : Nat) : SoundQ Tryz.prog 13 (Q255 fu) := fden_ok (cx := cx255 fu) (h255 fu) follows ent13 Tryz.func13 rfl rfl
def la258 : Nat → Option Pat := fun _ => none
def pr258 : Nat → List Gh := fun _ => []
def po258 : Nat → List Gh := fun _ => []
noncomputable def ph258 (fu : Nat) : Nat → Option (CQ (nEs [(80, 0), (81, 0), (88, 1), (89, 1), (110, 2), (111, 2)] [2, 2, 5]))
  | 13 => some (.dat (Q255 fu))
  | _ => none
theorem h258 (fu : Nat) : ∀ f q, ph258 fu f = some q → SoundC Tryz.prog f q := by
  intro f q h
  unfold ph258 at h
  split at h
  · cases h; exact zs255 fu
  · cases h
noncomputable def cx258 (fu : Nat) : Cx (nEs [(80, 0), (81, 0), (88, 1), (89, 1), (110, 2), (111, 2)] [2, 2, 5]) := ⟨Tryz.prog, ph258 fu, la258, fun _ => none, pr258, po258, 0, 3⟩
noncomputable def Q258 (fu : Nat) : FQ (nEs [(80, 0), (81, 0), (88, 1), (89, 1), (110, 2), (111, 2)] [2, 2, 5]) := ⟨[], [(.st (.pr (.st (.pr .bool (.pr (.st (.pr .bool (.pr .bool (.pr .bool (.pr (.st (.pr (.sl (.st (.pr (.int .i64) (.int .i64)))) (.sl (.st (.pr (.int .i64) (.int .i64)))))) (.st (.sl (.st (.pr .bool (.sl (.st (.pr (.int .u8) (.pr (.int .u8) (.int .i64)))))))))))))) (.pr (.sl (.nm 0)) (.sl (.nm 1)))))) (.st (.pr .bool (.pr (.st (.pr .bool (.pr .bool (.pr .bool (.pr (.st (.pr (.sl (.st (.pr (.int .i64) (.int .i64)))) (.sl (.st (.pr (.int .i64) (.int .i64)))))) (.st (.sl (.st (.pr .bool (.sl (.st (.pr (.int .u8) (.pr (.int .u8) (.int .i64)))))))))))))) (.pr (.sl (.nm 0)) (.sl (.nm 1))))))))], fden (cx258 fu) fu Tryz.f31 [] [(.st (.pr (.st (.pr .bool (.pr (.st (.pr .bool (.pr .bool (.pr .bool (.pr (.st (.pr (.sl (.st (.pr (.int .i64) (.int .i64)))) (.sl (.st (.pr (.int .i64) (.int .i64)))))) (.st (.sl (.st (.pr .bool (.sl (.st (.pr (.int .u8) (.pr (.int .u8) (.int .i64)))))))))))))) (.pr (.sl (.nm 0)) (.sl (.nm 1)))))) (.st (.pr .bool (.pr (.st (.pr .bool (.pr .bool (.pr .bool (.pr (.st (.pr (.sl (.st (.pr (.int .i64) (.int .i64)))) (.sl (.st (.pr (.int .i64) (.int .i64)))))) (.st (.sl (.st (.pr .bool (.sl (.st (.pr (.int .u8) (.pr (.int .u8) (.int .i64)))))))))))))) (.pr (.sl (.nm 0)) (.sl (.nm 1))))))))]⟩
theorem zs258 (fu : Nat) : SoundQ Tryz.prog 31 (Q258 fu) := fden_ok (cx := cx258 fu) (h258 fu) follows ent31 Tryz.func31 rfl rfl
def la259 : Nat → Option Pat := fun _ => none
def pr259 : Nat → List Gh := fun _ => []
def po259 : Nat → List Gh := fun _ => []
def ph259 (_ : Nat) : Nat → Option (CQ (nEs [(80, 0), (81, 0), (88, 1), (89, 1), (110, 2), (111, 2)] [2, 2, 5])) := fun _ => none
theorem h259 (fu : Nat) : ∀ f q, ph259 fu f = some q → SoundC Tryz.prog f q := fun _ _ h => by cases h
noncomputable def cx259 (fu : Nat) : Cx (nEs [(80, 0), (81, 0), (88, 1), (89, 1), (110, 2), (111, 2)] [2, 2, 5]) := ⟨Tryz.prog, ph259 fu, la259, fun _ => none, pr259, po259, 1, 9⟩
def pi259 : Pat := ⟨[.dat (.int .i64), .dat (.int .i64)], [(0, .v 0 (.int .i64)), (1, .loc 0 0)], [(0, .blk 3 [(1, .v 1 (.int .i64))])], 1⟩
def qo259 : Pat := ⟨[.dat .bool, .dat (.int .i64)], [(0, .v 0 .bool)], [(0, .blk 3 [(1, .v 1 (.int .i64))])], 1⟩
noncomputable def Q259 (fu : Nat) : PQ (nEs [(80, 0), (81, 0), (88, 1), (89, 1), (110, 2), (111, 2)] [2, 2, 5]) := ⟨pi259, qo259, 1, [], fdenP (cx259 fu) fu Tryz.f30 pi259 qo259 1⟩
theorem zs259 (fu : Nat) : SoundP Tryz.prog 30 (Q259 fu) := fdenP_ok (cx := cx259 fu) (h259 fu) follows ent30 Tryz.func30 rfl rfl
def la260 : Nat → Option Pat
  | 2 => some ⟨[.dat (.int .i64), .nat], [(0, .keep), (1, .keep), (7, .keep), (8, .cnt 1 201)], [(0, .blk 3 [(1, .v 0 (.int .i64))])], 1⟩
  | _ => none
def pr260 : Nat → List Gh := fun _ => []
def po260 : Nat → List Gh := fun _ => []
noncomputable def ph260 (fu : Nat) : Nat → Option (CQ (nEs [(80, 0), (81, 0), (88, 1), (89, 1), (110, 2), (111, 2)] [2, 2, 5]))
  | 30 => some (.pats [Q259 fu])
  | _ => none
theorem h260 (fu : Nat) : ∀ f q, ph260 fu f = some q → SoundC Tryz.prog f q := by
  intro f q h
  unfold ph260 at h
  split at h
  · cases h; exact (patsC (zs259 fu) patsN)
  · cases h
noncomputable def cx260 (fu : Nat) : Cx (nEs [(80, 0), (81, 0), (88, 1), (89, 1), (110, 2), (111, 2)] [2, 2, 5]) := ⟨Tryz.prog, ph260 fu, la260, fun _ => none, pr260, po260, 1, 19⟩
def pi260 : Pat := ⟨[.dat (.sl (.int .i64)), .dat (.int .i64)], [(0, .v 0 (.sl (.int .i64))), (1, .clo 30 [] [0])], [(0, .blk 3 [(1, .v 1 (.int .i64))])], 1⟩
def qo260 : Pat := ⟨[.dat (.int .i64), .dat (.int .i64)], [(0, .v 0 (.int .i64))], [(0, .blk 3 [(1, .v 1 (.int .i64))])], 1⟩
noncomputable def Q260 (fu : Nat) : PQ (nEs [(80, 0), (81, 0), (88, 1), (89, 1), (110, 2), (111, 2)] [2, 2, 5]) := ⟨pi260, qo260, 1, [], fdenP (cx260 fu) fu Tryz.f45 pi260 qo260 1⟩
theorem zs260 (fu : Nat) : SoundP Tryz.prog 45 (Q260 fu) := fdenP_ok (cx := cx260 fu) (h260 fu) follows ent45 Tryz.func45 rfl rfl
def la261 : Nat → Option Pat := fun _ => none
def pr261 : Nat → List Gh := fun _ => []
def po261 : Nat → List Gh := fun _ => []
noncomputable def ph261 (fu : Nat) : Nat → Option (CQ (nEs [(80, 0), (81, 0), (88, 1), (89, 1), (110, 2), (111, 2)] [2, 2, 5]))
  | 45 => some (.pats [Q260 fu])
  | _ => none
theorem h261 (fu : Nat) : ∀ f q, ph261 fu f = some q → SoundC Tryz.prog f q := by
  intro f q h
  unfold ph261 at h
  split at h
  · cases h; exact (patsC (zs260 fu) patsN)
  · cases h
noncomputable def cx261 (fu : Nat) : Cx (nEs [(80, 0), (81, 0), (88, 1), (89, 1), (110, 2), (111, 2)] [2, 2, 5]) := ⟨Tryz.prog, ph261 fu, la261, fun _ => none, pr261, po261, 1, 9⟩
def pi261 : Pat := ⟨[.dat (.sl (.int .i64)), .dat (.int .i64)], [(0, .v 0 (.sl (.int .i64))), (1, .clo 30 [] [0])], [(0, .blk 3 [(1, .v 1 (.int .i64))])], 1⟩
def qo261 : Pat := ⟨[.dat .bool, .dat (.int .i64)], [(0, .v 0 .bool)], [(0, .blk 3 [(1, .v 1 (.int .i64))])], 1⟩
noncomputable def Q261 (fu : Nat) : PQ (nEs [(80, 0), (81, 0), (88, 1), (89, 1), (110, 2), (111, 2)] [2, 2, 5]) := ⟨pi261, qo261, 1, [], fdenP (cx261 fu) fu Tryz.f29 pi261 qo261 1⟩
theorem zs261 (fu : Nat) : SoundP Tryz.prog 29 (Q261 fu) := fdenP_ok (cx := cx261 fu) (h261 fu) follows ent29 Tryz.func29 rfl rfl
def la263 : Nat → Option Pat
  | 3 => some ⟨[.dat (.sl (.int .i64)), .dat (.int .i64)], [(0, .keep), (5, .hdr 0), (7, .keep), (8, .v 1 (.int .i64))], [(0, .row 3 0)], 1⟩
  | _ => none
def pr263 : Nat → List Gh := fun _ => []
def po263 : Nat → List Gh
  | 2 => [.own 5 3 (.int .i64)]
  | 8 => [.fz 4]
  | _ => []
def ph263 (_ : Nat) : Nat → Option (CQ (nEs [(80, 0), (81, 0), (88, 1), (89, 1), (110, 2), (111, 2)] [2, 2, 5])) := fun _ => none
theorem h263 (fu : Nat) : ∀ f q, ph263 fu f = some q → SoundC Tryz.prog f q := fun _ _ h => by cases h
noncomputable def cx263 (fu : Nat) : Cx (nEs [(80, 0), (81, 0), (88, 1), (89, 1), (110, 2), (111, 2)] [2, 2, 5]) := ⟨Tryz.prog, ph263 fu, la263, fun _ => none, pr263, po263, 0, 22⟩
noncomputable def Q263 (fu : Nat) : FQ (nEs [(80, 0), (81, 0), (88, 1), (89, 1), (110, 2), (111, 2)] [2, 2, 5]) := ⟨[(.int .i64), (.int .i64)], [(.sl (.int .i64))], fden (cx263 fu) fu Tryz.f22 [(.int .i64), (.int .i64)] [(.sl (.int .i64))]⟩
theorem zs263 (fu : Nat) : SoundQ Tryz.prog 22 (Q263 fu) := fden_ok (cx := cx263 fu) (h263 fu) follows ent22 Tryz.func22 rfl rfl
def la264 : Nat → Option Pat := fun _ => none
def pr264 : Nat → List Gh := fun _ => []
def po264 : Nat → List Gh := fun _ => []
noncomputable def ph264 (fu : Nat) : Nat → Option (CQ (nEs [(80, 0), (81, 0), (88, 1), (89, 1), (110, 2), (111, 2)] [2, 2, 5]))
  | 22 => some (.dat (Q263 fu))
  | 33 => some (.dat (T169 fu))
  | 34 => some (.dat (T170 fu))
  | _ => none
theorem h264 (fu : Nat) : ∀ f q, ph264 fu f = some q → SoundC Tryz.prog f q := by
  intro f q h
  unfold ph264 at h
  split at h
  · cases h; exact zs263 fu
  · cases h; exact zt169 fu
  · cases h; exact zt170 fu
  · cases h
noncomputable def cx264 (fu : Nat) : Cx (nEs [(80, 0), (81, 0), (88, 1), (89, 1), (110, 2), (111, 2)] [2, 2, 5]) := ⟨Tryz.prog, ph264 fu, la264, fun _ => none, pr264, po264, 3, 37⟩
def pi264 : Pat := ⟨[.dat (.int .i64), .dat (.sl (.st (.pr (.st (.pr .bool (.pr (.st (.pr .bool (.pr .bool (.pr .bool (.pr (.st (.pr (.sl (.st (.pr (.int .i64) (.int .i64)))) (.sl (.st (.pr (.int .i64) (.int .i64)))))) (.st (.sl (.st (.pr .bool (.sl (.st (.pr (.int .u8) (.pr (.int .u8) (.int .i64)))))))))))))) (.pr (.sl (.nm 0)) (.sl (.nm 1)))))) (.st (.pr .bool (.pr (.st (.pr .bool (.pr .bool (.pr .bool (.pr (.st (.pr (.sl (.st (.pr (.int .i64) (.int .i64)))) (.sl (.st (.pr (.int .i64) (.int .i64)))))) (.st (.sl (.st (.pr .bool (.sl (.st (.pr (.int .u8) (.pr (.int .u8) (.int .i64)))))))))))))) (.pr (.sl (.nm 0)) (.sl (.nm 1))))))))), .dat (.sl (.st (.pr (.st (.pr .bool (.pr (.st (.pr .bool (.pr .bool (.pr .bool (.pr (.st (.pr (.sl (.st (.pr (.int .i64) (.int .i64)))) (.sl (.st (.pr (.int .i64) (.int .i64)))))) (.st (.sl (.st (.pr .bool (.sl (.st (.pr (.int .u8) (.pr (.int .u8) (.int .i64)))))))))))))) (.pr (.sl (.nm 0)) (.sl (.nm 1)))))) (.st (.pr .bool (.pr (.st (.pr .bool (.pr .bool (.pr .bool (.pr (.st (.pr (.sl (.st (.pr (.int .i64) (.int .i64)))) (.sl (.st (.pr (.int .i64) (.int .i64)))))) (.st (.sl (.st (.pr .bool (.sl (.st (.pr (.int .u8) (.pr (.int .u8) (.int .i64)))))))))))))) (.pr (.sl (.nm 0)) (.sl (.nm 1)))))))))], [(0, .v 0 (.int .i64)), (1, .loc 0 0), (2, .loc 1 0)], [(0, .blk 38 [(1, .v 1 (.sl (.st (.pr (.st (.pr .bool (.pr (.st (.pr .bool (.pr .bool (.pr .bool (.pr (.st (.pr (.sl (.st (.pr (.int .i64) (.int .i64)))) (.sl (.st (.pr (.int .i64) (.int .i64)))))) (.st (.sl (.st (.pr .bool (.sl (.st (.pr (.int .u8) (.pr (.int .u8) (.int .i64)))))))))))))) (.pr (.sl (.nm 0)) (.sl (.nm 1)))))) (.st (.pr .bool (.pr (.st (.pr .bool (.pr .bool (.pr .bool (.pr (.st (.pr (.sl (.st (.pr (.int .i64) (.int .i64)))) (.sl (.st (.pr (.int .i64) (.int .i64)))))) (.st (.sl (.st (.pr .bool (.sl (.st (.pr (.int .u8) (.pr (.int .u8) (.int .i64)))))))))))))) (.pr (.sl (.nm 0)) (.sl (.nm 1))))))))))]), (1, .blk 38 [(1, .hdr 2)]), (2, .row 36 2)], 3⟩
def qo264 : Pat := ⟨[.dat .bool, .dat (.sl (.st (.pr (.st (.pr .bool (.pr (.st (.pr .bool (.pr .bool (.pr .bool (.pr (.st (.pr (.sl (.st (.pr (.int .i64) (.int .i64)))) (.sl (.st (.pr (.int .i64) (.int .i64)))))) (.st (.sl (.st (.pr .bool (.sl (.st (.pr (.int .u8) (.pr (.int .u8) (.int .i64)))))))))))))) (.pr (.sl (.nm 0)) (.sl (.nm 1)))))) (.st (.pr .bool (.pr (.st (.pr .bool (.pr .bool (.pr .bool (.pr (.st (.pr (.sl (.st (.pr (.int .i64) (.int .i64)))) (.sl (.st (.pr (.int .i64) (.int .i64)))))) (.st (.sl (.st (.pr .bool (.sl (.st (.pr (.int .u8) (.pr (.int .u8) (.int .i64)))))))))))))) (.pr (.sl (.nm 0)) (.sl (.nm 1))))))))), .dat (.sl (.st (.pr (.st (.pr .bool (.pr (.st (.pr .bool (.pr .bool (.pr .bool (.pr (.st (.pr (.sl (.st (.pr (.int .i64) (.int .i64)))) (.sl (.st (.pr (.int .i64) (.int .i64)))))) (.st (.sl (.st (.pr .bool (.sl (.st (.pr (.int .u8) (.pr (.int .u8) (.int .i64)))))))))))))) (.pr (.sl (.nm 0)) (.sl (.nm 1)))))) (.st (.pr .bool (.pr (.st (.pr .bool (.pr .bool (.pr .bool (.pr (.st (.pr (.sl (.st (.pr (.int .i64) (.int .i64)))) (.sl (.st (.pr (.int .i64) (.int .i64)))))) (.st (.sl (.st (.pr .bool (.sl (.st (.pr (.int .u8) (.pr (.int .u8) (.int .i64)))))))))))))) (.pr (.sl (.nm 0)) (.sl (.nm 1)))))))))], [(0, .v 0 .bool)], [(0, .blk 38 [(1, .v 1 (.sl (.st (.pr (.st (.pr .bool (.pr (.st (.pr .bool (.pr .bool (.pr .bool (.pr (.st (.pr (.sl (.st (.pr (.int .i64) (.int .i64)))) (.sl (.st (.pr (.int .i64) (.int .i64)))))) (.st (.sl (.st (.pr .bool (.sl (.st (.pr (.int .u8) (.pr (.int .u8) (.int .i64)))))))))))))) (.pr (.sl (.nm 0)) (.sl (.nm 1)))))) (.st (.pr .bool (.pr (.st (.pr .bool (.pr .bool (.pr .bool (.pr (.st (.pr (.sl (.st (.pr (.int .i64) (.int .i64)))) (.sl (.st (.pr (.int .i64) (.int .i64)))))) (.st (.sl (.st (.pr .bool (.sl (.st (.pr (.int .u8) (.pr (.int .u8) (.int .i64)))))))))))))) (.pr (.sl (.nm 0)) (.sl (.nm 1))))))))))]), (1, .blk 38 [(1, .hdr 2)]), (2, .row 36 2)], 3⟩
noncomputable def Q264 (fu : Nat) : PQ (nEs [(80, 0), (81, 0), (88, 1), (89, 1), (110, 2), (111, 2)] [2, 2, 5]) := ⟨pi264, qo264, 1, [], fdenP (cx264 fu) fu Tryz.f32 pi264 qo264 1⟩
theorem zs264 (fu : Nat) : SoundP Tryz.prog 32 (Q264 fu) := fdenP_ok (cx := cx264 fu) (h264 fu) follows ent32 Tryz.func32 rfl rfl
def la265 : Nat → Option Pat := fun _ => none
def pr265 : Nat → List Gh := fun _ => []
def po265 : Nat → List Gh := fun _ => []
noncomputable def ph265 (fu : Nat) : Nat → Option (CQ (nEs [(80, 0), (81, 0), (88, 1), (89, 1), (110, 2), (111, 2)] [2, 2, 5]))
  | 29 => some (.pats [Q261 fu])
  | _ => none
theorem h265 (fu : Nat) : ∀ f q, ph265 fu f = some q → SoundC Tryz.prog f q := by
  intro f q h
  unfold ph265 at h
  split at h
  · cases h; exact (patsC (zs261 fu) patsN)
  · cases h
noncomputable def cx265 (fu : Nat) : Cx (nEs [(80, 0), (81, 0), (88, 1), (89, 1), (110, 2), (111, 2)] [2, 2, 5]) := ⟨Tryz.prog, ph265 fu, la265, fun _ => none, pr265, po265, 2, 7⟩
def pi265 : Pat := ⟨[.dat (.int .i64), .dat (.sl (.int .i64))], [(0, .v 0 (.int .i64)), (1, .loc 0 0)], [(0, .blk 43 [(1, .hdr 1)]), (1, .row 3 1)], 2⟩
def qo265 : Pat := ⟨[.dat .bool, .dat (.sl (.int .i64))], [(0, .v 0 .bool)], [(0, .blk 43 [(1, .hdr 1)]), (1, .row 3 1)], 2⟩
noncomputable def Q265 (fu : Nat) : PQ (nEs [(80, 0), (81, 0), (88, 1), (89, 1), (110, 2), (111, 2)] [2, 2, 5]) := ⟨pi265, qo265, 1, [], fdenP (cx265 fu) fu Tryz.f28 pi265 qo265 1⟩
theorem zs265 (fu : Nat) : SoundP Tryz.prog 28 (Q265 fu) := fdenP_ok (cx := cx265 fu) (h265 fu) follows ent28 Tryz.func28 rfl rfl
def la266 : Nat → Option Pat := fun _ => none
def pr266 : Nat → List Gh := fun _ => []
def po266 : Nat → List Gh := fun _ => []
def ph266 (_ : Nat) : Nat → Option (CQ (nEs [(80, 0), (81, 0), (88, 1), (89, 1), (110, 2), (111, 2)] [2, 2, 5])) := fun _ => none
theorem h266 (fu : Nat) : ∀ f q, ph266 fu f = some q → SoundC Tryz.prog f q := fun _ _ h => by cases h
noncomputable def cx266 (fu : Nat) : Cx (nEs [(80, 0), (81, 0), (88, 1), (89, 1), (110, 2), (111, 2)] [2, 2, 5]) := ⟨Tryz.prog, ph266 fu, la266, fun _ => none, pr266, po266, 1, 14⟩
def pi266 : Pat := ⟨[.dat (.int .i64), .dat (.int .i64)], [(0, .v 0 (.int .i64)), (1, .loc 0 0)], [(0, .blk 3 [(1, .v 1 (.int .i64))])], 1⟩
def qo266 : Pat := ⟨[.dat .bool, .dat (.int .i64)], [(0, .v 0 .bool)], [(0, .blk 3 [(1, .v 1 (.int .i64))])], 1⟩
noncomputable def Q266 (fu : Nat) : PQ (nEs [(80, 0), (81, 0), (88, 1), (89, 1), (110, 2), (111, 2)] [2, 2, 5]) := ⟨pi266, qo266, 1, [], fdenP (cx266 fu) fu Tryz.f50 pi266 qo266 1⟩
theorem zs266 (fu : Nat) : SoundP Tryz.prog 50 (Q266 fu) := fdenP_ok (cx := cx266 fu) (h266 fu) follows ent50 Tryz.func50 rfl rfl
def la267 : Nat → Option Pat
  | 2 => some ⟨[.dat (.int .i64), .nat], [(0, .keep), (1, .keep), (7, .keep), (8, .cnt 1 201)], [(0, .blk 3 [(1, .v 0 (.int .i64))])], 1⟩
  | _ => none
def pr267 : Nat → List Gh := fun _ => []
def po267 : Nat → List Gh := fun _ => []
noncomputable def ph267 (fu : Nat) : Nat → Option (CQ (nEs [(80, 0), (81, 0), (88, 1), (89, 1), (110, 2), (111, 2)] [2, 2, 5]))
  | 50 => some (.pats [Q266 fu])
  | _ => none
theorem h267 (fu : Nat) : ∀ f q, ph267 fu f = some q → SoundC Tryz.prog f q := by
  intro f q h
  unfold ph267 at h
  split at h
  · cases h; exact (patsC (zs266 fu) patsN)
  · cases h
noncomputable def cx267 (fu : Nat) : Cx (nEs [(80, 0), (81, 0), (88, 1), (89, 1), (110, 2), (111, 2)] [2, 2, 5]) := ⟨Tryz.prog, ph267 fu, la267, fun _ => none, pr267, po267, 1, 19⟩
def pi267 : Pat := ⟨[.dat (.sl (.int .i64)), .dat (.int .i64)], [(0, .v 0 (.sl (.int .i64))), (1, .clo 50 [] [0])], [(0, .blk 3 [(1, .v 1 (.int .i64))])], 1⟩
def qo267 : Pat := ⟨[.dat (.int .i64), .dat (.int .i64)], [(0, .v 0 (.int .i64))], [(0, .blk 3 [(1, .v 1 (.int .i64))])], 1⟩
noncomputable def Q267 (fu : Nat) : PQ (nEs [(80, 0), (81, 0), (88, 1), (89, 1), (110, 2), (111, 2)] [2, 2, 5]) := ⟨pi267, qo267, 1, [], fdenP (cx267 fu) fu Tryz.f45 pi267 qo267 1⟩
theorem zs267 (fu : Nat) : SoundP Tryz.prog 45 (Q267 fu) := fdenP_ok (cx := cx267 fu) (h267 fu) follows ent45 Tryz.func45 rfl rfl
def la268 : Nat → Option Pat := fun _ => none
def pr268 : Nat → List Gh := fun _ => []
def po268 : Nat → List Gh := fun _ => []
noncomputable def ph268 (fu : Nat) : Nat → Option (CQ (nEs [(80, 0), (81, 0), (88, 1), (89, 1), (110, 2), (111, 2)] [2, 2, 5]))
  | 45 => some (.pats [Q267 fu])
  | _ => none
theorem h268 (fu : Nat) : ∀ f q, ph268 fu f = some q → SoundC Tryz.prog f q := by
  intro f q h
  unfold ph268 at h
  split at h
  · cases h; exact (patsC (zs267 fu) patsN)
  · cases h
noncomputable def cx268 (fu : Nat) : Cx (nEs [(80, 0), (81, 0), (88, 1), (89, 1), (110, 2), (111, 2)] [2, 2, 5]) := ⟨Tryz.prog, ph268 fu, la268, fun _ => none, pr268, po268, 1, 9⟩
def pi268 : Pat := ⟨[.dat (.sl (.int .i64)), .dat (.int .i64)], [(0, .v 0 (.sl (.int .i64))), (1, .clo 50 [] [0])], [(0, .blk 3 [(1, .v 1 (.int .i64))])], 1⟩
def qo268 : Pat := ⟨[.dat .bool, .dat (.int .i64)], [(0, .v 0 .bool)], [(0, .blk 3 [(1, .v 1 (.int .i64))])], 1⟩
noncomputable def Q268 (fu : Nat) : PQ (nEs [(80, 0), (81, 0), (88, 1), (89, 1), (110, 2), (111, 2)] [2, 2, 5]) := ⟨pi268, qo268, 1, [], fdenP (cx268 fu) fu Tryz.f29 pi268 qo268 1⟩
theorem zs268 (fu : Nat) : SoundP Tryz.prog 29 (Q268 fu) := fdenP_ok (cx := cx268 fu) (h268 fu) follows ent29 Tryz.func29 rfl rfl
def la269 : Nat → Option Pat
  | 3 => some ⟨[.dat (.sl (.int .i64)), .nat], [(0, .keep), (3, .hdr 0), (6, .keep), (7, .keep), (8, .cnt 1 301)], [(0, .row 3 0)], 1⟩
  | _ => none
def pr269 : Nat → List Gh := fun _ => []
def po269 : Nat → List Gh
  | 2 => [.own 3 3 (.int .i64)]
  | 8 => [.fz 2]
  | _ => []
noncomputable def ph269 (fu : Nat) : Nat → Option (CQ (nEs [(80, 0), (81, 0), (88, 1), (89, 1), (110, 2), (111, 2)] [2, 2, 5]))
  | 29 => some (.pats [Q268 fu])
  | _ => none
theorem h269 (fu : Nat) : ∀ f q, ph269 fu f = some q → SoundC Tryz.prog f q := by
  intro f q h
  unfold ph269 at h
  split at h
  · cases h; exact (patsC (zs268 fu) patsN)
  · cases h
noncomputable def cx269 (fu : Nat) : Cx (nEs [(80, 0), (81, 0), (88, 1), (89, 1), (110, 2), (111, 2)] [2, 2, 5]) := ⟨Tryz.prog, ph269 fu, la269, fun _ => none, pr269, po269, 0, 22⟩
noncomputable def Q269 (fu : Nat) : FQ (nEs [(80, 0), (81, 0), (88, 1), (89, 1), (110, 2), (111, 2)] [2, 2, 5]) := ⟨[(.sl (.int .i64))], [(.sl (.int .i64))], fden (cx269 fu) fu Tryz.f35 [(.sl (.int .i64))] [(.sl (.int .i64))]⟩
theorem zs269 (fu : Nat) : SoundQ Tryz.prog 35 (Q269 fu) := fden_ok (cx := cx269 fu) (h269 fu) follows ent35 Tryz.func35 rfl rfl
def la270 : Nat → Option Pat
  | 7 => some ⟨[.dat (.sl (.st (.pr (.st (.pr .bool (.pr (.st (.pr .bool (.pr .bool (.pr .bool (.pr (.st (.pr (.sl (.st (.pr (.int .i64) (.int .i64)))) (.sl (.st (.pr (.int .i64) (.int .i64)))))) (.st (.sl (.st (.pr .bool (.sl (.st (.pr (.int .u8) (.pr (.int .u8) (.int .i64)))))))))))))) (.pr (.sl (.nm 0)) (.sl (.nm 1)))))) (.st (.pr .bool (.pr (.st (.pr .bool (.pr .bool (.pr .bool (.pr (.st (.pr (.sl (.st (.pr (.int .i64) (.int .i64)))) (.sl (.st (.pr (.int .i64) (.int .i64)))))) (.st (.sl (.st (.pr .bool (.sl (.st (.pr (.int .u8) (.pr (.int .u8) (.int .i64)))))))))))))) (.pr (.sl (.nm 0)) (.sl (.nm 1))))))))), .dat (.sl (.int .i64)), .dat (.sl (.st (.pr (.st (.pr .bool (.pr (.st (.pr .bool (.pr .bool (.pr .bool (.pr (.st (.pr (.sl (.st (.pr (.int .i64) (.int .i64)))) (.sl (.st (.pr (.int .i64) (.int .i64)))))) (.st (.sl (.st (.pr .bool (.sl (.st (.pr (.int .u8) (.pr (.int .u8) (.int .i64)))))))))))))) (.pr (.sl (.nm 0)) (.sl (.nm 1)))))) (.st (.pr .bool (.pr (.st (.pr .bool (.pr .bool (.pr .bool (.pr (.st (.pr (.sl (.st (.pr (.int .i64) (.int .i64)))) (.sl (.st (.pr (.int .i64) (.int .i64)))))) (.st (.sl (.st (.pr .bool (.sl (.st (.pr (.int .u8) (.pr (.int .u8) (.int .i64)))))))))))))) (.pr (.sl (.nm 0)) (.sl (.nm 1))))))))), .dat (.int .i64)], [(3, .keep), (4, .keep), (6, .keep), (19, .keep), (20, .v 3 (.int .i64))], [(3, .blk 38 [(1, .hdr 2)]), (2, .row 36 0), (0, .blk 38 [(1, .v 2 (.sl (.st (.pr (.st (.pr .bool (.pr (.st (.pr .bool (.pr .bool (.pr .bool (.pr (.st (.pr (.sl (.st (.pr (.int .i64) (.int .i64)))) (.sl (.st (.pr (.int .i64) (.int .i64)))))) (.st (.sl (.st (.pr .bool (.sl (.st (.pr (.int .u8) (.pr (.int .u8) (.int .i64)))))))))))))) (.pr (.sl (.nm 0)) (.sl (.nm 1)))))) (.st (.pr .bool (.pr (.st (.pr .bool (.pr .bool (.pr .bool (.pr (.st (.pr (.sl (.st (.pr (.int .i64) (.int .i64)))) (.sl (.st (.pr (.int .i64) (.int .i64)))))) (.st (.sl (.st (.pr .bool (.sl (.st (.pr (.int .u8) (.pr (.int .u8) (.int .i64)))))))))))))) (.pr (.sl (.nm 0)) (.sl (.nm 1))))))))))]), (1, .blk 43 [(1, .hdr 4)]), (4, .row 3 1)], 5⟩
  | _ => none
def pr270 : Nat → List Gh := fun _ => []
def po270 : Nat → List Gh
  | 6 => [.ownb 3 0 3 (.int .i64)]
  | _ => []
noncomputable def ph270 (fu : Nat) : Nat → Option (CQ (nEs [(80, 0), (81, 0), (88, 1), (89, 1), (110, 2), (111, 2)] [2, 2, 5]))
  | 28 => some (.pats [Q265 fu])
  | 31 => some (.dat (Q258 fu))
  | 32 => some (.pats [Q264 fu])
  | 35 => some (.dat (Q269 fu))
  | _ => none
theorem h270 (fu : Nat) : ∀ f q, ph270 fu f = some q → SoundC Tryz.prog f q := by
  intro f q h
  unfold ph270 at h
  split at h
  · cases h; exact (patsC (zs265 fu) patsN)
  · cases h; exact zs258 fu
  · cases h; exact (patsC (zs264 fu) patsN)
  · cases h; exact zs269 fu
  · cases h
noncomputable def cx270 (fu : Nat) : Cx (nEs [(80, 0), (81, 0), (88, 1), (89, 1), (110, 2), (111, 2)] [2, 2, 5]) := ⟨Tryz.prog, ph270 fu, la270, fun _ => none, pr270, po270, 0, 44⟩
noncomputable def Q270 (fu : Nat) : FQ (nEs [(80, 0), (81, 0), (88, 1), (89, 1), (110, 2), (111, 2)] [2, 2, 5]) := ⟨[(.sl (.st (.pr (.st (.pr .bool (.pr (.st (.pr .bool (.pr .bool (.pr .bool (.pr (.st (.pr (.sl (.st (.pr (.int .i64) (.int .i64)))) (.sl (.st (.pr (.int .i64) (.int .i64)))))) (.st (.sl (.st (.pr .bool (.sl (.st (.pr (.int .u8) (.pr (.int .u8) (.int .i64)))))))))))))) (.pr (.sl (.nm 0)) (.sl (.nm 1)))))) (.st (.pr .bool (.pr (.st (.pr .bool (.pr .bool (.pr .bool (.pr (.st (.pr (.sl (.st (.pr (.int .i64) (.int .i64)))) (.sl (.st (.pr (.int .i64) (.int .i64)))))) (.st (.sl (.st (.pr .bool (.sl (.st (.pr (.int .u8) (.pr (.int .u8) (.int .i64)))))))))))))) (.pr (.sl (.nm 0)) (.sl (.nm 1)))))))))], [(.sl (.int .i64))], fden (cx270 fu) fu Tryz.f16 [(.sl (.st (.pr (.st (.pr .bool (.pr (.st (.pr .bool (.pr .bool (.pr .bool (.pr (.st (.pr (.sl (.st (.pr (.int .i64) (.int .i64)))) (.sl (.st (.pr (.int .i64) (.int .i64)))))) (.st (.sl (.st (.pr .bool (.sl (.st (.pr (.int .u8) (.pr (.int .u8) (.int .i64)))))))))))))) (.pr (.sl (.nm 0)) (.sl (.nm 1)))))) (.st (.pr .bool (.pr (.st (.pr .bool (.pr .bool (.pr .bool (.pr (.st (.pr (.sl (.st (.pr (.int .i64) (.int .i64)))) (.sl (.st (.pr (.int .i64) (.int .i64)))))) (.st (.sl (.st (.pr .bool (.sl (.st (.pr (.int .u8) (.pr (.int .u8) (.int .i64)))))))))))))) (.pr (.sl (.nm 0)) (.sl (.nm 1)))))))))] [(.sl (.int .i64))]⟩
theorem zs270 (fu : Nat) : SoundQ Tryz.prog 16 (Q270 fu) := fden_ok (cx := cx270 fu) (h270 fu) follows ent16 Tryz.func16 rfl rfl
def la288 : Nat → Option Pat := fun _ => none
def pr288 : Nat → List Gh := fun _ => []
def po288 : Nat → List Gh := fun _ => []
def ph288 (_ : Nat) : Nat → Option (CQ (nEs [(80, 0), (81, 0), (88, 1), (89, 1), (110, 2), (111, 2)] [2, 2, 5])) := fun _ => none
theorem h288 (fu : Nat) : ∀ f q, ph288 fu f = some q → SoundC Tryz.prog f q := fun _ _ h => by cases h
noncomputable def cx288 (fu : Nat) : Cx (nEs [(80, 0), (81, 0), (88, 1), (89, 1), (110, 2), (111, 2)] [2, 2, 5]) := ⟨Tryz.prog, ph288 fu, la288, fun _ => none, pr288, po288, 1, 8⟩
def pi288 : Pat := ⟨[.dat (.int .i64), .dat (.int .i64)], [(0, .v 0 (.int .i64)), (1, .loc 0 0)], [(0, .blk 3 [(1, .v 1 (.int .i64))])], 1⟩
def qo288 : Pat := ⟨[.dat .bool, .dat (.int .i64)], [(0, .v 0 .bool)], [(0, .blk 3 [(1, .v 1 (.int .i64))])], 1⟩
noncomputable def Q288 (fu : Nat) : PQ (nEs [(80, 0), (81, 0), (88, 1), (89, 1), (110, 2), (111, 2)] [2, 2, 5]) := ⟨pi288, qo288, 1, [], fdenP (cx288 fu) fu Tryz.f36 pi288 qo288 1⟩
theorem zs288 (fu : Nat) : SoundP Tryz.prog 36 (Q288 fu) := fdenP_ok (cx := cx288 fu) (h288 fu) follows ent36 Tryz.func36 rfl rfl
def la289 : Nat → Option Pat
  | 2 => some ⟨[.dat (.int .i64), .nat], [(0, .keep), (1, .keep), (7, .keep), (8, .cnt 1 201)], [(0, .blk 3 [(1, .v 0 (.int .i64))])], 1⟩
  | _ => none
def pr289 : Nat → List Gh := fun _ => []
def po289 : Nat → List Gh := fun _ => []
noncomputable def ph289 (fu : Nat) : Nat → Option (CQ (nEs [(80, 0), (81, 0), (88, 1), (89, 1), (110, 2), (111, 2)] [2, 2, 5]))
  | 36 => some (.pats [Q288 fu])
  | _ => none
theorem h289 (fu : Nat) : ∀ f q, ph289 fu f = some q → SoundC Tryz.prog f q := by
  intro f q h
  unfold ph289 at h
  split at h
  · cases h; exact (patsC (zs288 fu) patsN)
  · cases h
noncomputable def cx289 (fu : Nat) : Cx (nEs [(80, 0), (81, 0), (88, 1), (89, 1), (110, 2), (111, 2)] [2, 2, 5]) := ⟨Tryz.prog, ph289 fu, la289, fun _ => none, pr289, po289, 1, 19⟩
def pi289 : Pat := ⟨[.dat (.sl (.int .i64)), .dat (.int .i64)], [(0, .v 0 (.sl (.int .i64))), (1, .clo 36 [] [0])], [(0, .blk 3 [(1, .v 1 (.int .i64))])], 1⟩
def qo289 : Pat := ⟨[.dat (.int .i64), .dat (.int .i64)], [(0, .v 0 (.int .i64))], [(0, .blk 3 [(1, .v 1 (.int .i64))])], 1⟩
noncomputable def Q289 (fu : Nat) : PQ (nEs [(80, 0), (81, 0), (88, 1), (89, 1), (110, 2), (111, 2)] [2, 2, 5]) := ⟨pi289, qo289, 1, [], fdenP (cx289 fu) fu Tryz.f45 pi289 qo289 1⟩
theorem zs289 (fu : Nat) : SoundP Tryz.prog 45 (Q289 fu) := fdenP_ok (cx := cx289 fu) (h289 fu) follows ent45 Tryz.func45 rfl rfl
def la290 : Nat → Option Pat := fun _ => none
def pr290 : Nat → List Gh := fun _ => []
def po290 : Nat → List Gh := fun _ => []
noncomputable def ph290 (fu : Nat) : Nat → Option (CQ (nEs [(80, 0), (81, 0), (88, 1), (89, 1), (110, 2), (111, 2)] [2, 2, 5]))
  | 45 => some (.pats [Q289 fu])
  | _ => none
theorem h290 (fu : Nat) : ∀ f q, ph290 fu f = some q → SoundC Tryz.prog f q := by
  intro f q h
  unfold ph290 at h
  split at h
  · cases h; exact (patsC (zs289 fu) patsN)
  · cases h
noncomputable def cx290 (fu : Nat) : Cx (nEs [(80, 0), (81, 0), (88, 1), (89, 1), (110, 2), (111, 2)] [2, 2, 5]) := ⟨Tryz.prog, ph290 fu, la290, fun _ => none, pr290, po290, 1, 9⟩
def pi290 : Pat := ⟨[.dat (.sl (.int .i64)), .dat (.int .i64)], [(0, .v 0 (.sl (.int .i64))), (1, .clo 36 [] [0])], [(0, .blk 3 [(1, .v 1 (.int .i64))])], 1⟩
def qo290 : Pat := ⟨[.dat .bool, .dat (.int .i64)], [(0, .v 0 .bool)], [(0, .blk 3 [(1, .v 1 (.int .i64))])], 1⟩
noncomputable def Q290 (fu : Nat) : PQ (nEs [(80, 0), (81, 0), (88, 1), (89, 1), (110, 2), (111, 2)] [2, 2, 5]) := ⟨pi290, qo290, 1, [], fdenP (cx290 fu) fu Tryz.f29 pi290 qo290 1⟩
theorem zs290 (fu : Nat) : SoundP Tryz.prog 29 (Q290 fu) := fdenP_ok (cx := cx290 fu) (h290 fu) follows ent29 Tryz.func29 rfl rfl
def la291 : Nat → Option Pat
  | 4 => some ⟨[.dat (.sl (.int .i64)), .dat (.int .i64)], [(3, .keep), (4, .hdr 0), (10, .keep), (11, .v 1 (.int .i64))], [(0, .row 3 0)], 1⟩
  | _ => none
def pr291 : Nat → List Gh
  | 9 => [.fz 4]
  | _ => []
def po291 : Nat → List Gh
  | 3 => [.own 4 3 (.int .i64)]
  | _ => []
noncomputable def ph291 (fu : Nat) : Nat → Option (CQ (nEs [(80, 0), (81, 0), (88, 1), (89, 1), (110, 2), (111, 2)] [2, 2, 5]))
  | 16 => some (.dat (Q270 fu))
  | 29 => some (.pats [Q290 fu])
  | 35 => some (.dat (Q269 fu))
  | _ => none
theorem h291 (fu : Nat) : ∀ f q, ph291 fu f = some q → SoundC Tryz.prog f q := by
  intro f q h
  unfold ph291 at h
  split at h
  · cases h; exact zs270 fu
  · cases h; exact (patsC (zs290 fu) patsN)
  · cases h; exact zs269 fu
  · cases h
noncomputable def cx291 (fu : Nat) : Cx (nEs [(80, 0), (81, 0), (88, 1), (89, 1), (110, 2), (111, 2)] [2, 2, 5]) := ⟨Tryz.prog, ph291 fu, la291, fun _ => none, pr291, po291, 0, 25⟩
noncomputable def Q291 (fu : Nat) : FQ (nEs [(80, 0), (81, 0), (88, 1), (89, 1), (110, 2), (111, 2)] [2, 2, 5]) := ⟨[(.sl (.st (.pr (.st (.pr .bool (.pr (.st (.pr .bool (.pr .bool (.pr .bool (.pr (.st (.pr (.sl (.st (.pr (.int .i64) (.int .i64)))) (.sl (.st (.pr (.int .i64) (.int .i64)))))) (.st (.sl (.st (.pr .bool (.sl (.st (.pr (.int .u8) (.pr (.int .u8) (.int .i64)))))))))))))) (.pr (.sl (.nm 0)) (.sl (.nm 1)))))) (.st (.pr .bool (.pr (.st (.pr .bool (.pr .bool (.pr .bool (.pr (.st (.pr (.sl (.st (.pr (.int .i64) (.int .i64)))) (.sl (.st (.pr (.int .i64) (.int .i64)))))) (.st (.sl (.st (.pr .bool (.sl (.st (.pr (.int .u8) (.pr (.int .u8) (.int .i64)))))))))))))) (.pr (.sl (.nm 0)) (.sl (.nm 1)))))))))], [(.sl (.int .i64))], fden (cx291 fu) fu Tryz.f17 [(.sl (.st (.pr (.st (.pr .bool (.pr (.st (.pr .bool (.pr .bool (.pr .bool (.pr (.st (.pr (.sl (.st (.pr (.int .i64) (.int .i64)))) (.sl (.st (.pr (.int .i64) (.int .i64)))))) (.st (.sl (.st (.pr .bool (.sl (.st (.pr (.int .u8) (.pr (.int .u8) (.int .i64)))))))))))))) (.pr (.sl (.nm 0)) (.sl (.nm 1)))))) (.st (.pr .bool (.pr (.st (.pr .bool (.pr .bool (.pr .bool (.pr (.st (.pr (.sl (.st (.pr (.int .i64) (.int .i64)))) (.sl (.st (.pr (.int .i64) (.int .i64)))))) (.st (.sl (.st (.pr .bool (.sl (.st (.pr (.int .u8) (.pr (.int .u8) (.int .i64)))))))))))))) (.pr (.sl (.nm 0)) (.sl (.nm 1)))))))))] [(.sl (.int .i64))]⟩
theorem zs291 (fu : Nat) : SoundQ Tryz.prog 17 (Q291 fu) := fden_ok (cx := cx291 fu) (h291 fu) follows ent17 Tryz.func17 rfl rfl
end Go.GV
namespace Go.GV
open Go Go.GK Go.Proofs
theorem members_eq (fu : Nat) (s n : Int) : (Q263 fu).F (s, n) = membersG (capE Tryz.prog 3) fu s n := by kernel_rfl
theorem cl1_eq (fu : Nat) (a s : Int) : (Q259 fu).F (a, s) = cl1 a s := by kernel_rfl
theorem cl2_eq (fu : Nat) (y x : Int) : (Q266 fu).F (y, x) = cl2 y x := by kernel_rfl
theorem cl3_eq (fu : Nat) (a s : Int) : (Q288 fu).F (a, s) = cl3 a s := by kernel_rfl
theorem ix1_eq (fu : Nat) (l : List Int) (x : Int) : (Q260 fu).F (l, x) = ixG (fun a s => (Q259 fu).F (a, s)) fu l x := by kernel_rfl
theorem ix2_eq (fu : Nat) (l : List Int) (x : Int) : (Q267 fu).F (l, x) = ixG (fun a s => (Q266 fu).F (a, s)) fu l x := by kernel_rfl
theorem ix3_eq (fu : Nat) (l : List Int) (x : Int) : (Q289 fu).F (l, x) = ixG (fun a s => (Q288 fu).F (a, s)) fu l x := by kernel_rfl
theorem cf1_eq (fu : Nat) (l : List Int) (x : Int) : (Q261 fu).F (l, x) = cfG (fun l x => (Q260 fu).F (l, x)) l x := by kernel_rfl
theorem cf2_eq (fu : Nat) (l : List Int) (x : Int) : (Q268 fu).F (l, x) = cfG (fun l x => (Q267 fu).F (l, x)) l x := by kernel_rfl
theorem cf3_eq (fu : Nat) (l : List Int) (x : Int) : (Q290 fu).F (l, x) = cfG (fun l x => (Q289 fu).F (l, x)) l x := by kernel_rfl
theorem known_eq (fu : Nat) (s : Int) (out : List Int) : (Q265 fu).F (s, out) = knownG (fun l x => (Q261 fu).F (l, x)) s out := by kernel_rfl
theorem min_eq (fu : Nat) (l : List Int) : (Q269 fu).F l = minG (fun l x => (Q268 fu).F (l, x)) (capE Tryz.prog 3) fu l := by kernel_rfl
theorem cons_eq (fu : Nat) (s : Int) (l b : List VV) : (Q264 fu).F (s, l, b) = consG (fun s n => (Q263 fu).F (s, n)) (fun x y => (T169 fu).F (x, y)) (fun x => (T170 fu).F x) s l b := by kernel_rfl
theorem confl_eq (fu : Nat) (l : List VV) : (Q270 fu).F l = conflG (fun s o => (Q265 fu).F (s, o)) (fun s l b => (Q264 fu).F (s, l, b)) (fun l => (Q269 fu).F l) ((Q258 fu).F ()) (capE Tryz.prog 3) (capE Tryz.prog 36) fu l := by kernel_rfl
theorem rep_eq (fu : Nat) (l : List VV) : (Q291 fu).F l = repG (fun l => (Q270 fu).F l) (fun l x => (Q290 fu).F (l, x)) (fun l => (Q269 fu).F l) (capE Tryz.prog 3) fu l := by kernel_rfl
end Go.GV
namespace Go.GV
open Go Go.GK Go.Proofs
theorem cap3 : 4294967296 ≤ capE Tryz.prog 3 := Nat.le_of_ble_eq_true (by kernel_rfl)
theorem cap36 : 4294967296 ≤ capE Tryz.prog 36 := Nat.le_of_ble_eq_true (by kernel_rfl)
theorem uQ (fu : Nat) : UT (fun x y => (T169 fu).F (x, y)) (fun x => (T170 fu).F x) := by
  refine ⟨fun a b c h => ?_, by kernel_rfl, by kernel_rfl, by kernel_rfl⟩
  unfold uT at h
  split at h
  · cases h; exact ⟨0, by kernel_rfl⟩
  · cases h; exact ⟨0, by kernel_rfl⟩
  · cases h; exact ⟨0, by kernel_rfl⟩
  · cases h; exact ⟨0, by kernel_rfl⟩
  · cases h
theorem topQ (fu : Nat) : (Q258 fu).F () = some (d2 44) := by kernel_rfl
theorem memF (fu : Nat) : (fun (s n : Int) => ((Q263 fu).F (s, n) : Option (List Int))) = membersG (capE Tryz.prog 3) fu := funext fun s => funext fun n => members_eq fu s n
theorem c1F (fu : Nat) : (fun (a s : Int) => ((Q259 fu).F (a, s) : Option (Bool × Int))) = cl1 := funext fun s => funext fun n => cl1_eq fu s n
theorem c2F (fu : Nat) : (fun (a s : Int) => ((Q266 fu).F (a, s) : Option (Bool × Int))) = cl2 := funext fun s => funext fun n => cl2_eq fu s n
theorem c3F (fu : Nat) : (fun (a s : Int) => ((Q288 fu).F (a, s) : Option (Bool × Int))) = cl3 := funext fun s => funext fun n => cl3_eq fu s n
theorem i1F (fu : Nat) : (fun (l : List Int) (x : Int) => ((Q260 fu).F (l, x) : Option (Int × Int))) = ixG cl1 fu := funext fun l => funext fun x => (ix1_eq fu l x).trans (congrArg (fun g => ixG g fu l x) (c1F fu))
theorem i2F (fu : Nat) : (fun (l : List Int) (x : Int) => ((Q267 fu).F (l, x) : Option (Int × Int))) = ixG cl2 fu := funext fun l => funext fun x => (ix2_eq fu l x).trans (congrArg (fun g => ixG g fu l x) (c2F fu))
theorem i3F (fu : Nat) : (fun (l : List Int) (x : Int) => ((Q289 fu).F (l, x) : Option (Int × Int))) = ixG cl3 fu := funext fun l => funext fun x => (ix3_eq fu l x).trans (congrArg (fun g => ixG g fu l x) (c3F fu))
theorem f1F (fu : Nat) : (fun (l : List Int) (x : Int) => ((Q261 fu).F (l, x) : Option (Bool × Int))) = cfG (ixG cl1 fu) := funext fun l => funext fun x => (cf1_eq fu l x).trans (congrArg (fun g => cfG g l x) (i1F fu))
theorem f2F (fu : Nat) : (fun (l : List Int) (x : Int) => ((Q268 fu).F (l, x) : Option (Bool × Int))) = cfG (ixG cl2 fu) := funext fun l => funext fun x => (cf2_eq fu l x).trans (congrArg (fun g => cfG g l x) (i2F fu))
theorem f3F (fu : Nat) : (fun (l : List Int) (x : Int) => ((Q290 fu).F (l, x) : Option (Bool × Int))) = cfG (ixG cl3 fu) := funext fun l => funext fun x => (cf3_eq fu l x).trans (congrArg (fun g => cfG g l x) (i3F fu))
theorem knF (fu : Nat) : (fun (s : Int) (o : List Int) => ((Q265 fu).F (s, o) : Option (Bool × List Int))) = fun s o => knownG (cfG (ixG cl1 fu)) s o := funext fun s => funext fun o => (known_eq fu s o).trans (congrArg (fun g => knownG g s o) (f1F fu))
theorem mnF (fu : Nat) : (fun (l : List Int) => ((Q269 fu).F l : Option (List Int))) = fun l => minG (cfG (ixG cl2 fu)) (capE Tryz.prog 3) fu l := funext fun l => (min_eq fu l).trans (congrArg (fun g => minG g (capE Tryz.prog 3) fu l) (f2F fu))
theorem coF (fu : Nat) : (fun (s : Int) (l b : List VV) => ((Q264 fu).F (s, l, b) : Option (Bool × (List VV × List VV)))) = fun s l b => consG (membersG (capE Tryz.prog 3) fu) (fun x y => (T169 fu).F (x, y)) (fun x => (T170 fu).F x) s l b :=
  funext fun s => funext fun l => funext fun b => (cons_eq fu s l b).trans (congrArg (fun g => consG g (fun x y => (T169 fu).F (x, y)) (fun x => (T170 fu).F x) s l b) (memF fu))
theorem confF (fu : Nat) (l : List VV) : (Q270 fu).F l = conflG (fun s o => knownG (cfG (ixG cl1 fu)) s o) (fun s l b => consG (membersG (capE Tryz.prog 3) fu) (fun x y => (T169 fu).F (x, y)) (fun x => (T170 fu).F x) s l b) (fun l => minG (cfG (ixG cl2 fu)) (capE Tryz.prog 3) fu l) (some (d2 44)) (capE Tryz.prog 3) (capE Tryz.prog 36) fu l :=
  (confl_eq fu l).trans ((congrArg (fun g => conflG g (fun s l b => (Q264 fu).F (s, l, b)) (fun l => (Q269 fu).F l) ((Q258 fu).F ()) (capE Tryz.prog 3) (capE Tryz.prog 36) fu l) (knF fu)).trans
    ((congrArg (fun g => conflG _ g (fun l => (Q269 fu).F l) ((Q258 fu).F ()) (capE Tryz.prog 3) (capE Tryz.prog 36) fu l) (coF fu)).trans
      ((congrArg (fun g => conflG _ _ g ((Q258 fu).F ()) (capE Tryz.prog 3) (capE Tryz.prog 36) fu l) (mnF fu)).trans
        (congrArg (fun g => conflG _ _ _ g (capE Tryz.prog 3) (capE Tryz.prog 36) fu l) (topQ fu)))))
theorem conf_ok {n : Nat} {A : List Nat} (hn : n ≤ 11) (H : allN (fun s => Nat.beq s 0 || ckC n s) (2 ^ (n + 1)) = true) (hA : eqL (minN (cN (2 ^ (n + 1)))) A = true) : (Q270 6000).F (lN n) = some (ints A) := by
  rw [confF, confl_ok (uQ 6000) hn cap3 cap36 (by decide) fun s h0 hs => ?_, eqL_eq hA]
  have := allN_ok H s hs
  cases h : Nat.beq s 0 with
  | true => have := Nat.eq_of_beq_eq_true h; omega
  | false => rw [h, Bool.false_or] at this; exact this
theorem repF (fu : Nat) (l : List VV) : (Q291 fu).F l = repG (fun l => (Q270 fu).F l) (fun l x => cfG (ixG cl3 fu) l x) (fun l => minG (cfG (ixG cl2 fu)) (capE Tryz.prog 3) fu l) (capE Tryz.prog 3) fu l :=
  (rep_eq fu l).trans ((congrArg (fun g => repG (fun l => (Q270 fu).F l) g (fun l => (Q269 fu).F l) (capE Tryz.prog 3) fu l) (f3F fu)).trans
    (congrArg (fun g => repG (fun l => (Q270 fu).F l) (fun l x => cfG (ixG cl3 fu) l x) g (capE Tryz.prog 3) fu l) (mnF fu)))
def bdB (l : List Nat) : Bool := l.all fun a => Nat.blt a 8192
theorem repq_ok {n : Nat} {A B : List Nat} (hn : n ≤ 11) (h : (Q270 6000).F (lN n) = some (ints A)) (hb : bdB A = true) (hl : Nat.ble A.length 100 = true) (hB : eqL (minN (rN A (n + 1))) B = true) : (Q291 6000).F (lN n) = some (ints B) := by
  have := Nat.le_of_ble_eq_true hl
  rw [repF, rep_ok (lN_len n) (by omega) cap3 (by decide) (fun a ha => ?_) (by omega) h, eqL_eq hB]
  have := Nat.le_of_ble_eq_true (List.all_eq_true.1 hb a ha)
  omega
end Go.GV
