/- AutomatonAccepts: for every input the call returns true, and each argument reads afterwards as it read before. The package-level variables that its row lists are tied to the program's text. -/
import Derived.Test.YtjmbmodmepdmjaaDoorRd
import Derived.Test.YtjmbmodmepdmjaaDoorWAutomatonAccepts
import Derived.Test.YtjmbmodmepdmjaaDoorLawAuto
namespace Go.Proofs.YtjmbmodmepdmjaaDoor.automatonAccepts
open Go.GK Go.ChangeShapes Go.WideShapes Go.ChangeAt Go.RowKit
theorem own : ownKnob Tryd.prog.godebug = none := by kernel_rfl
theorem laidOut : laidOutB Tryd.prog = true := by kernel_rfl
theorem walk (W : World) (hG : LaidH Tryd.prog (Hp.of W))
    {v0 : Value} {l0 : List (Bool × (List (Int × Int × Int)))} (hl0 : SlD (cP cB (cL (cP cU8 (cP cU8 cI64)))) (Hp.of W) l0 v0) {v1 : Value} {l1 : List (Bool × (List (Int × Int × Int)))} (hl1 : SlD (cP cB (cL (cP cU8 (cP cU8 cI64)))) (Hp.of W) l1 v1) (l2 : Str) : TriV Tryd.prog 3 [v0, v1, (sv l2)] (Hp.of W) [] (.bool true) := by
  obtain ⟨fu, h⟩ := GL.accepts_law l0 l1 l2 (GL.byT_of hl0) (GL.byT_of hl1)
  exact w05_AutomatonAccepts_w hl0 hl1 hG h
set_option maxRecDepth 100000 in
set_option maxHeartbeats 1000000 in
theorem contract (H : Type) (enc : TypeId × Value → H) (W : World) (base : Nat) (args : Array Value) (ds gs : List (DataW H)) (before : List MemPlace)
    (hval : ∀ (j : Nat) t v, Tryd.f3.params[j]? = some t → args[j]? = some v → Value.okWide Tryd.prog W .any base t v)
    (hW : DataW.Whole enc Tryd.prog Tryd.f3.params.toList Rows.automatonAcceptsSpec.vars false W args.toList ds gs before) (hL : laidMetH Tryd.prog Rows.automatonAcceptsRow.laid W) :
    Calls Tryd.prog 3 args W fun e W' => ∃ v, e = .returned v ∧ Rows.automatonAcceptsSpec.post enc Tryd.prog Tryd.f3 false true false false W args v W' := by
  have hW' := hW
  obtain ⟨p, q, hA0, hV, rfl, _, _⟩ := hW
  have hA : DataW.TrodAll enc Tryd.prog W 0 (fun _ => true) true Tryd.f3.params.toList args.toList ds p := hA0
  rw [Tryd.params3] at hA hval
  obtain ⟨v0, vs0, d0, ds0, p0, q0, hargs, rfl, rfl, h0, r0⟩ := trodAll_cons hA
  obtain ⟨v1, vs1, d1, ds1, p1, q1, rfl, rfl, rfl, h1, r1⟩ := trodAll_cons r0
  obtain ⟨v2, vs2, d2, ds2, p2, q2, rfl, rfl, rfl, h2, r2⟩ := trodAll_cons r1
  obtain ⟨rfl, rfl, rfl⟩ := trodAll_nil r2
  obtain rfl : args = #[v0, v1, v2] := by cases args; simp_all
  obtain ⟨rfl, rfl⟩ := trodVars_none hV
  clear hA0
  simp only [List.append_nil] at hW'
  have hlt : ∀ x ∈ p0 ++ (p1 ++ (p2)), x.block < W.heap.size := fun x hx => hW'.lt x hx
  obtain ⟨l0, hl0⟩ := RdB.slArg Tryd.underlying22 (by kernel_rfl) rd40 (hval 0 22 v0 rfl rfl) h0
  obtain ⟨l1, hl1⟩ := RdB.slArg Tryd.underlying22 (by kernel_rfl) rd40 (hval 1 22 v1 rfl rfl) h1
  obtain ⟨l2, rfl⟩ := strArg Tryd.underlying9 (hval 2 9 v2 rfl rfl) h2
  have hG : LaidH Tryd.prog (Hp.of W) := laidH hL
  refine (walk W hG hl0 hl1 l2 W (SH.start W)).mono fun e W' ⟨he, hs⟩ => ?_
  subst he
  have hbel := hs.below
  exact ⟨_, rfl, ⟨_, _, _, [], _, [], hW', trodAll_cons_mk (shut_bool Tryd.underlying4 _) trodAll_mk0, (trodAll_cons_mk (Below.trod laidOut (by kernel_rfl) (of_decide_eq_true (by kernel_rfl)) h0 hbel (fun x hx => hlt x (by simp [hx]))) (trodAll_cons_mk (Below.trod laidOut (by kernel_rfl) (of_decide_eq_true (by kernel_rfl)) h1 hbel (fun x hx => hlt x (by simp [hx]))) (trodAll_cons_mk (Below.trod laidOut (by kernel_rfl) (of_decide_eq_true (by kernel_rfl)) h2 hbel (fun x hx => hlt x (by simp [hx]))) trodAll_mk0))), rfl, hbel.frame _, fun h => by cases h⟩⟩
theorem laid_met (os : Os) : laidMet Tryd.prog Rows.automatonAcceptsRow.laid ((World.doorLaid Tryd.prog 400 os).forCall (fun _ _ => 0) ⟨#[], #[.slice none 0 0, .slice none 0 0, .string ⟨#[]⟩], []⟩).memory :=
  laidMet_of_run' 8 (by kernel_rfl) (by kernel_rfl)
theorem reads (os : Os) {H : Type} (enc : TypeId × Value → H) : ∃ places, DataW.whole enc Tryd.prog ((World.doorLaid Tryd.prog 400 os).forCall (fun _ _ => 0) ⟨#[], #[.slice none 0 0, .slice none 0 0, .string ⟨#[]⟩], []⟩).memory Tryd.f3.params.toList Rows.automatonAcceptsSpec.vars false (#[.slice none 0 0, .slice none 0 0, .string ⟨#[]⟩] : Array Value).toList 8 = some ([.nil, .nil, .lit (.string [])], [], places) :=
  ⟨[], by kernel_rfl⟩
set_option maxRecDepth 100000 in
theorem lifted (os : Os) (started : os.Started) (H : Type) (enc : TypeId × Value → H) (F : Stop.Interp) :
    ReturnsInHanded {} Tryd.checked os 3 .any ((OpenSpec.ofChange Rows.automatonAcceptsSpec).preRow enc Tryd.prog Tryd.f3 Rows.automatonAcceptsRow.domain false Rows.automatonAcceptsRow.laid) (((OpenSpec.ofChange Rows.automatonAcceptsSpec).at F).post enc Tryd.prog Tryd.f3 false true false false) := by
  obtain ⟨places, hx⟩ := reads os enc
  refine returnsInHanded_of_row (C := Tryd.checked) (s := (OpenSpec.ofChange Rows.automatonAcceptsSpec)) own started (by kernel_rfl) Tryd.func3
    (witness_row_at (enc := enc) (C := Tryd.checked) false (World.doorLaid Tryd.prog 400 os) #[.slice none 0 0, .slice none 0 0, .string ⟨#[]⟩] rfl (by kernel_rfl) (by kernel_rfl) (by kernel_rfl)
      (OpenSpec.preRow_of_cond 8 hx (by kernel_rfl) (fun k hk => by cases hk) (by kernel_rfl) (laid_met os))) ?_
  intro W base args ds gs before hval hW _ _ _ hL _ _
  exact contract H enc W base args ds gs before hval hW hL
theorem said : Rows.AutomatonAcceptsSaid :=
  OpenClaim.holds_of_cond 3 Tryd.f3 rfl rfl rfl rfl rfl rfl rfl ⟨rfl, rfl, rfl, rfl, rfl⟩ rfl rfl rfl rfl rfl (by kernel_rfl) Tryd.func3 (by kernel_rfl)
    (of_decide_eq_true (by kernel_rfl)) (by unfold Func.isWrapper; first | (rw [if_pos (by decide +kernel)]; kernel_rfl) | (rw [if_neg (by decide +kernel)]; exact ⟨rfl, rfl⟩))
    (fun os started H enc _ F => by rw [OpenClaim.pre_eq_preRow]; exact lifted os started H enc F)
theorem plain (f : FuncId) (fn : Func) (hf : Tryd.pinned.checked.prog.funcNamed "configlang/configlanglaw05.AutomatonAccepts" = some f) (hfn : Tryd.pinned.checked.prog.funcs[f]? = some fn) :
    false = Tryd.pinned.checked.prog.looks [] ∧ ∀ (j : Nat) t, fn.params[j]? = some t → Tryd.pinned.checked.prog.wantsStandIn t = false := by
  obtain rfl : f = 3 := Option.some.inj ((show Tryd.prog.funcNamed "configlang/configlanglaw05.AutomatonAccepts" = some 3 by kernel_rfl).symm.trans hf) |>.symm
  obtain rfl : fn = Tryd.f3 := (Option.some.inj (Tryd.func3.symm.trans hfn)).symm
  refine ⟨by kernel_rfl, fun j t ht => ?_⟩
  rw [Tryd.params3] at ht
  have hm : t ∈ [22, 22, 9] := by simpa using Array.mem_of_getElem? ht
  have hall : ([22, 22, 9].all fun u => !Tryd.prog.wantsStandIn u) = true := by kernel_rfl
  exact (show Tryd.prog.wantsStandIn t = false by simpa using List.all_eq_true.1 hall t hm)
end Go.Proofs.YtjmbmodmepdmjaaDoor.automatonAccepts
namespace Go.Proofs.YtjmbmodmepdmjaaDoor
/-- AutomatonAccepts -/
theorem automatonAccepts_holds : Rows.AutomatonAcceptsCardSaid :=
  Claim7.holds_tied_plain_at .later [] _ _ _ _ automatonAccepts.said (fun _ h => by cases h) (by kernel_rfl) (fun _ h => by cases h) automatonAccepts_row_tie rfl ⟨rfl, rfl⟩ (by kernel_rfl) rfl automatonAccepts.plain (by kernel_rfl)
end Go.Proofs.YtjmbmodmepdmjaaDoor
