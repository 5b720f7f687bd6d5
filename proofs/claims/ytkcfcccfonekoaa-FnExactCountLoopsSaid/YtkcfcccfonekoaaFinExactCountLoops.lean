/-
  FnExactCountLoops answers true whatever comes in, and what comes in reads behind the call as it did.
  Conditions: none.
-/
import Derived.WalkKit
import Derived.ProofKit
import Derived.OpenShut
import Derived.ShutString
import Derived.ChangeOld
import Derived.Below
import Derived.Test.YtkcfcccfonekoaaRows
import Derived.Test.YtkcfcccfonekoaaPvCx
import Derived.Test.YtkcfcccfonekoaaWExactCountLoops
import Derived.Test.YtkcfcccfonekoaaPlAx
set_option linter.all false
namespace Go.Proofs.Ytkcfcccfonekoaa
open Go.ChangeShapes Go.WideShapes Go.ChangeAt Go.RowKit Go.PV
open Go.ChangeMaps (open_string shut_string)
set_option linter.unusedVariables false
theorem FnExactCountLoops_own : ownKnob Try.prog.godebug = none := by kernel_rfl
theorem FnExactCountLoops_laidOut : laidOutB Try.prog = true := by kernel_rfl
set_option maxRecDepth 100000 in
theorem FnExactCountLoops_lifted (os : Os) (started : os.Started) (H : Type) (enc : TypeId × Value → H) :
    ReturnsInHanded {} Try.checked os 13 .any (Rows.fnExactCountLoopsSpec.pre6 enc Try.prog Try.f13 Rows.fnExactCountLoopsRow.domain false) (Rows.fnExactCountLoopsSpec.post enc Try.prog Try.f13 false true false false) := by
  refine returnsInHanded_of_change (C := Try.checked) FnExactCountLoops_own started (by kernel_rfl) Try.func13
    (ChangeSpec.witness6 (enc := enc) (C := Try.checked) false ⟨#[], #[.slice none 0 0, .slice none 0 0, .int .i64 0], []⟩ 8 (by kernel_rfl) (by kernel_rfl) (by kernel_rfl) (by kernel_rfl)) ?_
  intro W base args ds gs before hval0 hW hcnd _
  have hval : ∀ (j : Nat) t v, Try.f13.params[j]? = some t → args[j]? = some v → Value.okWide Try.prog W .any base t v := hval0
  have hW' := hW
  obtain ⟨p, q, hA0, hV, rfl, hfz, hnd⟩ := hW
  have hA : DataW.TrodAll enc Try.prog W 0 (fun _ => true) true Try.f13.params.toList args.toList ds p := hA0
  rw [Try.params13] at hA hval
  obtain ⟨v0, vs0, d0, ds0, p0, q0, hargs, rfl, rfl, h0, r0⟩ := trodAll_cons hA
  obtain ⟨v1, vs1, d1, ds1, p1, q1, rfl, rfl, rfl, h1, r1⟩ := trodAll_cons r0
  obtain ⟨v2, vs2, d2, ds2, p2, q2, rfl, rfl, rfl, h2, r2⟩ := trodAll_cons r1
  obtain ⟨rfl, rfl, rfl⟩ := trodAll_nil r2
  obtain rfl : args = #[v0, v1, v2] := by cases args; simp_all
  obtain ⟨rfl, rfl⟩ := trodVars_none hV
  have lt0 : ∀ x ∈ p0, x.block < W.heap.size := by obtain ⟨m, hm⟩ := h0; exact DataW.trod_lt m _ _ _ hm
  obtain ⟨a0, ok0, hf0⟩ := arg_of (n := 12) (T := (.sl (.pair (.pair (.int .i64) (.int .i64)) (.pair (.int .i64) (.int .i64))))) (by kernel_rfl) (hval 0 22 v0 rfl rfl) h0
  have lt1 : ∀ x ∈ p1, x.block < W.heap.size := by obtain ⟨m, hm⟩ := h1; exact DataW.trod_lt m _ _ _ hm
  obtain ⟨a1, ok1, hf1⟩ := arg_of (n := 12) (T := (.sl (.pair (.pair (.int .i64) (.int .i64)) (.pair (.int .i64) (.int .i64))))) (by kernel_rfl) (hval 1 53 v1 rfl rfl) h1
  have lt2 : ∀ x ∈ p2, x.block < W.heap.size := by obtain ⟨m, hm⟩ := h2; exact DataW.trod_lt m _ _ _ hm
  obtain ⟨a2, ok2, hf2⟩ := arg_of (n := 12) (T := (.int .i64)) (by kernel_rfl) (hval 2 3 v2 rfl rfl) h2
  refine (law_calls (W := W) (vals := #[v0, v1, v2]) (tabs_none (by kernel_rfl) (vars_none (by kernel_rfl))) (wk_laws_FnExactCountLoops (laws_FnExactCountLoops_eq a0 a1 a2 (Nat.le_trans ok0.1 (by decide)) (Nat.le_trans ok1.1 (by decide)))) rfl ⟨hf0, ⟨hf1, ⟨hf2, trivial⟩⟩⟩).mono fun e W' ⟨he, bel⟩ => ?_
  subst he
  exact ⟨_, rfl, _, _, _, [], _, [], hW', trodAll_mk1 (shut_bool Try.underlying4 _), (trodAll_cons_mk (Below.trod FnExactCountLoops_laidOut (by kernel_rfl) (of_decide_eq_true (by kernel_rfl)) h0 bel lt0) (trodAll_cons_mk (Below.trod FnExactCountLoops_laidOut (by kernel_rfl) (of_decide_eq_true (by kernel_rfl)) h1 bel lt1) (trodAll_cons_mk (Below.trod FnExactCountLoops_laidOut (by kernel_rfl) (of_decide_eq_true (by kernel_rfl)) h2 bel lt2) trodAll_mk0))), rfl, bel.frame _, fun h => by cases h⟩
/-- THE STATEMENT. -/
theorem FnExactCountLoops_holds : Rows.FnExactCountLoopsSaid :=
  OpenClaim.holds_of_wide 13 Try.f13 rfl rfl rfl rfl rfl rfl rfl ⟨rfl, rfl, rfl, rfl, rfl⟩ rfl rfl rfl rfl rfl (by kernel_rfl) Try.func13 (by kernel_rfl)
    (of_decide_eq_true (by kernel_rfl)) (by unfold Func.isWrapper; first | (rw [if_pos (by decide +kernel)]; kernel_rfl) | (rw [if_neg (by decide +kernel)]; exact ⟨rfl, rfl⟩))
    (fun os started H enc _ => FnExactCountLoops_lifted os started H enc)
#print axioms FnExactCountLoops_holds
end Go.Proofs.Ytkcfcccfonekoaa
