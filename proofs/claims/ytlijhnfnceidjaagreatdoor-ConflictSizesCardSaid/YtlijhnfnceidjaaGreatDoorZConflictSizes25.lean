/- ConflictSizes: for every input the call returns true, and each argument reads afterwards as it read before. The package-level variables that its row lists are tied to the program's text. -/
import Derived.Test.YtlijhnfnceidjaaGreatDoorZConflictSizes22
import Derived.Test.YtlijhnfnceidjaaGreatDoorZConflictSizes24
import Derived.Test.YtlijhnfnceidjaaGreatDoorCards
import Derived.Test.YtlijhnfnceidjaaGreatDoorTie
import Derived.Deep.DeepHandedRow
import Derived.LaidMore
import Derived.Stop.LaidErr
import Derived.WalkSmall
namespace Go.Proofs.YtlijhnfnceidjaaGreatDoor.conflictSizes
open Go.GK Go.GV Go.ChangeShapes Go.WideShapes Go.ChangeAt Go.RowKit
theorem own : ownKnob Tryz.prog.godebug = none := by kernel_rfl
theorem laidOut : laidOutB Tryz.prog = true := by kernel_rfl
theorem SH.less {w : World} {H H' : Hp} {O : List Res} (h : SH w H' O) (hl : H.le H') : SH w H O where
  imm b o x := h.imm b o (hl.1 b o x)
  os := h.os.trans hl.2.1
  output := h.output.trans hl.2.2.1
  tape := h.tape.trans hl.2.2.2
  ok := h.ok
  dis i r b h1 h2 := by
    cases hx : H.at_ b with
    | none => rfl
    | some o =>
      have := h.dis i r b h1 h2
      rw [hl.1 b o hx] at this
      cases this
  nd := h.nd
theorem walk (n : Int) (hn : F64 n) (b : Bool) (H : Hp) : Tri Tryz.prog 3 [(.int .i64 n), (.bool b)] H [] (fun v H' O' => O' = [] ∧ v = .bool true) :=
  (law_all.ok (n, b) true rfl H [] _ ⟨_, _, rfl, ⟨[.int .i64 n], layInt.2 ⟨rfl, trivial⟩, rfl⟩, _, rfl, ⟨[.bool b], rfl, rfl⟩⟩).mono fun v H' O' _ h => by
    obtain ⟨h1, cs, h2, h3⟩ := h
    refine ⟨h1, ?_⟩
    have h4 : cs = [.bool true] := h2
    have h5 : cs = [v] := h3
    rw [h4] at h5
    cases h5
    rfl
set_option maxRecDepth 100000 in
set_option maxHeartbeats 1000000 in
theorem contract (H : Type) (enc : TypeId × Value → H) (W : World) (base : Nat) (args : Array Value) (ds gs : List (DataW H)) (before : List MemPlace)
    (hval : ∀ (j : Nat) t v, Tryz.f3.params[j]? = some t → args[j]? = some v → Value.okWide Tryz.prog W .any base t v)
    (hW : DataW.Whole enc Tryz.prog Tryz.f3.params.toList Rows.conflictSizesSpec.vars false W args.toList ds gs before) (hL : laidMetH Tryz.prog Rows.conflictSizesRow.laid W) :
    Calls Tryz.prog 3 args W fun e W' => ∃ v, e = .returned v ∧ Rows.conflictSizesSpec.post enc Tryz.prog Tryz.f3 false true false false W args v W' := by
  have hW' := hW
  obtain ⟨p, q, hA0, hV, rfl, _, _⟩ := hW
  have hA : DataW.TrodAll enc Tryz.prog W 0 (fun _ => true) true Tryz.f3.params.toList args.toList ds p := hA0
  rw [Tryz.params3] at hA hval
  obtain ⟨v0, vs0, d0, ds0, p0, q0, hargs, rfl, rfl, h0, r0⟩ := trodAll_cons hA
  obtain ⟨v1, vs1, d1, ds1, p1, q1, rfl, rfl, rfl, h1, r1⟩ := trodAll_cons r0
  obtain ⟨rfl, rfl, rfl⟩ := trodAll_nil r1
  obtain rfl : args = #[v0, v1] := by cases args; simp_all
  obtain ⟨rfl, rfl⟩ := trodVars_none hV
  clear hA0
  simp only [List.append_nil] at hW'
  have hlt : ∀ x ∈ p0 ++ (p1), x.block < W.heap.size := fun x hx => hW'.lt x hx
  obtain ⟨l0, rfl, _, _, hl0⟩ := Go.ChangeShapes.open_int Tryz.underlying3 (hval 0 3 v0 rfl rfl) h0
  obtain ⟨l1, rfl, _, _⟩ := Go.RowKit.open_bool Tryz.underlying4 (hval 1 4 v1 rfl rfl) h1
  refine (walk l0 (by simpa [Lit.wf, IntKind.min, IntKind.max, IntKind.signed, IntKind.bits] using hl0) l1 (Hp.of W) W (SH.start W)).mono fun e W' ⟨v, H', O', he, hle, hs, hO, hv⟩ => ?_
  subst he hO hv
  have hbel := (SH.less hs hle).below
  exact ⟨_, rfl, ⟨_, _, _, [], _, [], hW', trodAll_cons_mk (shut_bool Tryz.underlying4 _) trodAll_mk0, (trodAll_cons_mk (Below.trod laidOut (by kernel_rfl) (of_decide_eq_true (by kernel_rfl)) h0 hbel (fun x hx => hlt x (by simp [hx]))) (trodAll_cons_mk (Below.trod laidOut (by kernel_rfl) (of_decide_eq_true (by kernel_rfl)) h1 hbel (fun x hx => hlt x (by simp [hx]))) trodAll_mk0)), rfl, hbel.frame _, fun h => by cases h⟩⟩
theorem laid_met (os : Os) : laidMet Tryz.prog Rows.conflictSizesRow.laid ((World.doorLaid Tryz.prog 400 os).forCall (fun _ _ => 0) ⟨#[], #[.int .i64 0, .bool false], []⟩).memory :=
  laidMet_of_run' 8 (by kernel_rfl) (by kernel_rfl)
theorem reads (os : Os) {H : Type} (enc : TypeId × Value → H) : ∃ places, DataW.whole enc Tryz.prog ((World.doorLaid Tryz.prog 400 os).forCall (fun _ _ => 0) ⟨#[], #[.int .i64 0, .bool false], []⟩).memory Tryz.f3.params.toList Rows.conflictSizesSpec.vars false (#[.int .i64 0, .bool false] : Array Value).toList 8 = some ([.lit (.int .i64 0), .lit (.bool false)], [], places) :=
  ⟨[], by kernel_rfl⟩
set_option maxRecDepth 100000 in
theorem lifted (os : Os) (started : os.Started) (H : Type) (enc : TypeId × Value → H) (F : Stop.Interp) :
    ReturnsInHanded {} Tryz.checked os 3 .any ((OpenSpec.ofChange Rows.conflictSizesSpec).preRow enc Tryz.prog Tryz.f3 Rows.conflictSizesRow.domain false Rows.conflictSizesRow.laid) (((OpenSpec.ofChange Rows.conflictSizesSpec).at F).post enc Tryz.prog Tryz.f3 false true false false) := by
  obtain ⟨places, hx⟩ := reads os enc
  refine returnsInHanded_of_row (C := Tryz.checked) (s := (OpenSpec.ofChange Rows.conflictSizesSpec)) own started (by kernel_rfl) Tryz.func3
    (witness_row_at (enc := enc) (C := Tryz.checked) false (World.doorLaid Tryz.prog 400 os) #[.int .i64 0, .bool false] rfl (by kernel_rfl) (by kernel_rfl) (by kernel_rfl)
      (OpenSpec.preRow_of_cond 8 hx (by kernel_rfl) (fun k hk => by cases hk) (by kernel_rfl) (laid_met os))) ?_
  intro W base args ds gs before hval hW _ _ _ hL _ _
  exact contract H enc W base args ds gs before hval hW hL
theorem said : Rows.ConflictSizesSaid :=
  OpenClaim.holds_of_cond 3 Tryz.f3 rfl rfl rfl rfl rfl rfl rfl ⟨rfl, rfl, rfl, rfl, rfl⟩ rfl rfl rfl rfl rfl (by kernel_rfl) Tryz.func3 closed
    (of_decide_eq_true (by kernel_rfl)) (by unfold Func.isWrapper; first | (rw [if_pos (by decide +kernel)]; kernel_rfl) | (rw [if_neg (by decide +kernel)]; exact ⟨rfl, rfl⟩))
    (fun os started H enc _ F => by rw [OpenClaim.pre_eq_preRow]; exact lifted os started H enc F)
theorem plain (f : FuncId) (fn : Func) (hf : Tryz.pinned.checked.prog.funcNamed "configlang/configlanglaw23.ConflictSizes" = some f) (hfn : Tryz.pinned.checked.prog.funcs[f]? = some fn) :
    false = Tryz.pinned.checked.prog.looks [] ∧ ∀ (j : Nat) t, fn.params[j]? = some t → Tryz.pinned.checked.prog.wantsStandIn t = false := by
  obtain rfl : f = 3 := Option.some.inj ((show Tryz.prog.funcNamed "configlang/configlanglaw23.ConflictSizes" = some 3 by kernel_rfl).symm.trans hf) |>.symm
  obtain rfl : fn = Tryz.f3 := (Option.some.inj (Tryz.func3.symm.trans hfn)).symm
  refine ⟨by kernel_rfl, fun j t ht => ?_⟩
  rw [Tryz.params3] at ht
  have hm : t ∈ [3, 4] := by simpa using Array.mem_of_getElem? ht
  have hall : ([3, 4].all fun u => !Tryz.prog.wantsStandIn u) = true := by kernel_rfl
  exact (show Tryz.prog.wantsStandIn t = false by simpa using List.all_eq_true.1 hall t hm)
end Go.Proofs.YtlijhnfnceidjaaGreatDoor.conflictSizes
namespace Go.Proofs.YtlijhnfnceidjaaGreatDoor
theorem conflictSizes_holds : Rows.ConflictSizesCardSaid :=
  Claim7.holds_tied_plain_at .later [] _ _ _ _ conflictSizes.said (fun _ h => by cases h) (by kernel_rfl) (fun _ h => by cases h) conflictSizes_row_tie rfl ⟨rfl, rfl⟩ (by kernel_rfl) rfl conflictSizes.plain noGoBy
end Go.Proofs.YtlijhnfnceidjaaGreatDoor
