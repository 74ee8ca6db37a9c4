/- AutomatonCanonical: for every input the call returns true, and each argument reads afterwards as it read before. The package-level variables that its row lists are tied to the program's text. -/
import Derived.Test.YtjmbmodmepdmjaaGreatDoorRd
import Derived.Test.YtjmbmodmepdmjaaGreatDoorWAutomatonCanonical
import Derived.Test.YtjmbmodmepdmjaaGreatDoorLawEqv
namespace Go.Proofs.YtjmbmodmepdmjaaGreatDoor.automatonCanonical
open Go.GK Go.ChangeShapes Go.WideShapes Go.ChangeAt Go.RowKit
theorem own : ownKnob Tryz.prog.godebug = none := by kernel_rfl
theorem laidOut : laidOutB Tryz.prog = true := by kernel_rfl
theorem walk (W : World) (hG : LaidH Tryz.prog (Hp.of W))
    {v0 : Value} {l0 : List (Bool × (List (Int × Int × Int)))} (hl0 : SlD (cP cB (cL (cP cU8 (cP cU8 cI64)))) (Hp.of W) l0 v0) {v1 : Value} {l1 : List (Bool × (List (Int × Int × Int)))} (hl1 : SlD (cP cB (cL (cP cU8 (cP cU8 cI64)))) (Hp.of W) l1 v1) : TriV Tryz.prog 5 [v0, v1] (Hp.of W) [] (.bool true) := by
  obtain ⟨fu, h⟩ := GL.canonical_law l0 l1 (GL.byT_of hl0) (GL.byT_of hl1)
  exact w05_AutomatonCanonical_w hl0 hl1 hG h
set_option maxRecDepth 100000 in
set_option maxHeartbeats 1000000 in
theorem contract (H : Type) (enc : TypeId × Value → H) (W : World) (base : Nat) (args : Array Value) (ds gs : List (DataW H)) (before : List MemPlace)
    (hval : ∀ (j : Nat) t v, Tryz.f5.params[j]? = some t → args[j]? = some v → Value.okWide Tryz.prog W .any base t v)
    (hW : DataW.Whole enc Tryz.prog Tryz.f5.params.toList Rows.automatonCanonicalSpec.vars false W args.toList ds gs before) (hL : laidMetH Tryz.prog Rows.automatonCanonicalRow.laid W) :
    Calls Tryz.prog 5 args W fun e W' => ∃ v, e = .returned v ∧ Rows.automatonCanonicalSpec.post enc Tryz.prog Tryz.f5 false true false false W args v W' := by
  have hW' := hW
  obtain ⟨p, q, hA0, hV, rfl, _, _⟩ := hW
  have hA : DataW.TrodAll enc Tryz.prog W 0 (fun _ => true) true Tryz.f5.params.toList args.toList ds p := hA0
  rw [Tryz.params5] at hA hval
  obtain ⟨v0, vs0, d0, ds0, p0, q0, hargs, rfl, rfl, h0, r0⟩ := trodAll_cons hA
  obtain ⟨v1, vs1, d1, ds1, p1, q1, rfl, rfl, rfl, h1, r1⟩ := trodAll_cons r0
  obtain ⟨rfl, rfl, rfl⟩ := trodAll_nil r1
  obtain rfl : args = #[v0, v1] := by cases args; simp_all
  obtain ⟨rfl, rfl⟩ := trodVars_none hV
  clear hA0
  simp only [List.append_nil] at hW'
  have hlt : ∀ x ∈ p0 ++ (p1), x.block < W.heap.size := fun x hx => hW'.lt x hx
  obtain ⟨l0, hl0⟩ := RdB.slArg Tryz.underlying22 (by kernel_rfl) rd43 (hval 0 22 v0 rfl rfl) h0
  obtain ⟨l1, hl1⟩ := RdB.slArg Tryz.underlying22 (by kernel_rfl) rd43 (hval 1 22 v1 rfl rfl) h1
  have hG : LaidH Tryz.prog (Hp.of W) := laidH hL
  refine (walk W hG hl0 hl1 W (SH.start W)).mono fun e W' ⟨he, hs⟩ => ?_
  subst he
  have hbel := hs.below
  exact ⟨_, rfl, ⟨_, _, _, [], _, [], hW', trodAll_cons_mk (shut_bool Tryz.underlying4 _) trodAll_mk0, (trodAll_cons_mk (Below.trod laidOut (by kernel_rfl) (of_decide_eq_true (by kernel_rfl)) h0 hbel (fun x hx => hlt x (by simp [hx]))) (trodAll_cons_mk (Below.trod laidOut (by kernel_rfl) (of_decide_eq_true (by kernel_rfl)) h1 hbel (fun x hx => hlt x (by simp [hx]))) trodAll_mk0)), rfl, hbel.frame _, fun h => by cases h⟩⟩
theorem laid_met (os : Os) : laidMet Tryz.prog Rows.automatonCanonicalRow.laid ((World.doorLaid Tryz.prog 400 os).forCall (fun _ _ => 0) ⟨#[], #[.slice none 0 0, .slice none 0 0], []⟩).memory :=
  laidMet_of_run' 8 (by kernel_rfl) (by kernel_rfl)
theorem reads (os : Os) {H : Type} (enc : TypeId × Value → H) : ∃ places, DataW.whole enc Tryz.prog ((World.doorLaid Tryz.prog 400 os).forCall (fun _ _ => 0) ⟨#[], #[.slice none 0 0, .slice none 0 0], []⟩).memory Tryz.f5.params.toList Rows.automatonCanonicalSpec.vars false (#[.slice none 0 0, .slice none 0 0] : Array Value).toList 8 = some ([.nil, .nil], [], places) :=
  ⟨[], by kernel_rfl⟩
set_option maxRecDepth 100000 in
theorem lifted (os : Os) (started : os.Started) (H : Type) (enc : TypeId × Value → H) (F : Stop.Interp) :
    ReturnsInHanded {} Tryz.checked os 5 .any ((OpenSpec.ofChange Rows.automatonCanonicalSpec).preRow enc Tryz.prog Tryz.f5 Rows.automatonCanonicalRow.domain false Rows.automatonCanonicalRow.laid) (((OpenSpec.ofChange Rows.automatonCanonicalSpec).at F).post enc Tryz.prog Tryz.f5 false true false false) := by
  obtain ⟨places, hx⟩ := reads os enc
  refine returnsInHanded_of_row (C := Tryz.checked) (s := (OpenSpec.ofChange Rows.automatonCanonicalSpec)) own started (by kernel_rfl) Tryz.func5
    (witness_row_at (enc := enc) (C := Tryz.checked) false (World.doorLaid Tryz.prog 400 os) #[.slice none 0 0, .slice none 0 0] rfl (by kernel_rfl) (by kernel_rfl) (by kernel_rfl)
      (OpenSpec.preRow_of_cond 8 hx (by kernel_rfl) (fun k hk => by cases hk) (by kernel_rfl) (laid_met os))) ?_
  intro W base args ds gs before hval hW _ _ _ hL _ _
  exact contract H enc W base args ds gs before hval hW hL
theorem said : Rows.AutomatonCanonicalSaid :=
  OpenClaim.holds_of_cond 5 Tryz.f5 rfl rfl rfl rfl rfl rfl rfl ⟨rfl, rfl, rfl, rfl, rfl⟩ rfl rfl rfl rfl rfl (by kernel_rfl) Tryz.func5 (by kernel_rfl)
    (of_decide_eq_true (by kernel_rfl)) (by unfold Func.isWrapper; first | (rw [if_pos (by decide +kernel)]; kernel_rfl) | (rw [if_neg (by decide +kernel)]; exact ⟨rfl, rfl⟩))
    (fun os started H enc _ F => by rw [OpenClaim.pre_eq_preRow]; exact lifted os started H enc F)
theorem plain (f : FuncId) (fn : Func) (hf : Tryz.pinned.checked.prog.funcNamed "configlang/configlanglaw05.AutomatonCanonical" = some f) (hfn : Tryz.pinned.checked.prog.funcs[f]? = some fn) :
    false = Tryz.pinned.checked.prog.looks [] ∧ ∀ (j : Nat) t, fn.params[j]? = some t → Tryz.pinned.checked.prog.wantsStandIn t = false := by
  obtain rfl : f = 5 := Option.some.inj ((show Tryz.prog.funcNamed "configlang/configlanglaw05.AutomatonCanonical" = some 5 by kernel_rfl).symm.trans hf) |>.symm
  obtain rfl : fn = Tryz.f5 := (Option.some.inj (Tryz.func5.symm.trans hfn)).symm
  refine ⟨by kernel_rfl, fun j t ht => ?_⟩
  rw [Tryz.params5] at ht
  have hm : t ∈ [22, 22] := by simpa using Array.mem_of_getElem? ht
  have hall : ([22, 22].all fun u => !Tryz.prog.wantsStandIn u) = true := by kernel_rfl
  exact (show Tryz.prog.wantsStandIn t = false by simpa using List.all_eq_true.1 hall t hm)
end Go.Proofs.YtjmbmodmepdmjaaGreatDoor.automatonCanonical
namespace Go.Proofs.YtjmbmodmepdmjaaGreatDoor
/-- AutomatonCanonical -/
theorem automatonCanonical_holds : Rows.AutomatonCanonicalCardSaid :=
  Claim7.holds_tied_plain_at .later [] _ _ _ _ automatonCanonical.said (fun _ h => by cases h) (by kernel_rfl) (fun _ h => by cases h) automatonCanonical_row_tie rfl ⟨rfl, rfl⟩ (by kernel_rfl) rfl automatonCanonical.plain (by kernel_rfl)
end Go.Proofs.YtjmbmodmepdmjaaGreatDoor
