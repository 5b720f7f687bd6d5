/-
  FnExactLiftText answers true whatever comes in, and what comes in reads behind the call as it did.
  Conditions: none.
-/
import Derived.WalkKit
import Derived.ProofKit
import Derived.OpenShut
import Derived.ShutString
import Derived.ChangeOld
import Derived.Below
import Derived.LaidMore
import Derived.Stop.Joined
import Derived.Stop.LaidErr
import Derived.SevenTiedAt
import Derived.MakeChecks
import Derived.Test.YtlajjggemadajaaDoorRows
import Derived.Test.YtlajjggemadajaaDoorCards
import Derived.Test.YtlajjggemadajaaDoorTie
import Derived.Test.YtlajjggemadajaaDoorPvCx
import Derived.Test.YtlajjggemadajaaDoorWExactLiftText
import Derived.Test.YtlajjggemadajaaDoorPlAx
set_option linter.all false
namespace Go.Proofs.YtlajjggemadajaaDoor
open Go.ChangeShapes Go.WideShapes Go.ChangeAt Go.RowKit Go.PV
open Go.ChangeMaps (open_string shut_string)
set_option linter.unusedVariables false
theorem FnExactLiftText_own : ownKnob Tryd.prog.godebug = none := by kernel_rfl
theorem FnExactLiftText_laidOut : laidOutB Tryd.prog = true := by kernel_rfl
set_option maxRecDepth 100000 in
theorem FnExactLiftText_met (os : Os) (args : Array Value) : laidMetH Tryd.prog Rows.fnExactLiftTextRow.laid ((World.doorLaid Tryd.prog 4000 os).forCall (fun _ _ => 0) ⟨#[], args, []⟩).memory :=
  laidMetH_of_parts3 (fuel := 8) (laidMet_of_run' 8 (by kernel_rfl) (by kernel_rfl)) (by kernel_rfl) (by kernel_rfl)
theorem FnExactLiftText_tabs {W : World} (h : laidMetH Tryd.prog Rows.fnExactLiftTextRow.laid W) : Tabs Tryd.prog (fun b => b < W.heap.size) W := by
  rw [MakeChecks.laidMetH_plain _ _ _ (by kernel_rfl)] at h
  exact tabs_of_head (g := (Tryd.prog.globalNamed "internal/strconv.uint64pow10").getD 0) (t := 87) (e := 81) (n := 20) (by kernel_rfl) (by kernel_rfl) (by kernel_rfl) (by kernel_rfl) ⟨by kernel_rfl, by kernel_rfl⟩ (laidMet.tail (laidMet.tail h))
set_option maxRecDepth 100000 in
theorem FnExactLiftText_lifted (os : Os) (started : os.Started) (H : Type) (enc : TypeId × Value → H) :
    ReturnsInHanded {} Tryd.checked os 3 .any (fun w args => (Rows.fnExactLiftTextSpec.pre enc Tryd.prog Tryd.f3 [] false w args ∧ laidMetH Tryd.prog Rows.fnExactLiftTextRow.laid w) ∧ sizedMet enc Tryd.prog Tryd.f3 (OpenSpec.ofChange Rows.fnExactLiftTextSpec) false w args) (Rows.fnExactLiftTextSpec.post enc Tryd.prog Tryd.f3 false true false false) := by
  refine returnsInHanded_of_change_and (C := Tryd.checked) (X := fun w _ => laidMetH Tryd.prog Rows.fnExactLiftTextRow.laid w) (fun _ _ _ hh h => h.of_heap hh) FnExactLiftText_own started (by kernel_rfl) Tryd.func3
    (ChangeSpec.witness_shaped (enc := enc) (C := Tryd.checked) (os := os) (X := fun w _ => laidMetH Tryd.prog Rows.fnExactLiftTextRow.laid w) false (World.doorLaid Tryd.prog 4000 os) #[.agg #[.slice none 0 0]] 8 rfl (World.shaped_of_RefB (by kernel_rfl) (by kernel_rfl)) (by kernel_rfl) (by kernel_rfl) (by kernel_rfl) (FnExactLiftText_met os _)) ?_
  intro W base args ds gs before hval0 hW _ _ hL _
  have hval : ∀ (j : Nat) t v, Tryd.f3.params[j]? = some t → args[j]? = some v → Value.okWide Tryd.prog W .any base t v := hval0
  have hW' := hW
  obtain ⟨p, q, hA0, hV, rfl, hfz, hnd⟩ := hW
  have hA : DataW.TrodAll enc Tryd.prog W 0 (fun _ => true) true Tryd.f3.params.toList args.toList ds p := hA0
  rw [Tryd.params3] at hA hval
  obtain ⟨v0, vs0, d0, ds0, p0, q0, hargs, rfl, rfl, h0, r0⟩ := trodAll_cons hA
  obtain ⟨rfl, rfl, rfl⟩ := trodAll_nil r0
  obtain rfl : args = #[v0] := by cases args; simp_all
  obtain ⟨rfl, rfl⟩ := trodVars_none hV
  have lt0 : ∀ x ∈ p0, x.block < W.heap.size := by obtain ⟨m, hm⟩ := h0; exact DataW.trod_lt m _ _ _ hm
  obtain ⟨a0, ok0, hf0⟩ := arg_of (n := 12) (T := (.one (.sl (.pair (.pair (.int .i64) (.int .i64)) (.pair (.int .i64) (.int .i64)))))) (by kernel_rfl) (hval 0 24 v0 rfl rfl) h0
  refine (law_calls (W := W) (vals := #[v0]) (FnExactLiftText_tabs hL) (wk_laws_FnExactLiftText (laws_FnExactLiftText_eq a0 (Nat.le_trans ok0.1 (by decide)))) rfl ⟨hf0, trivial⟩).mono fun e W' ⟨he, bel⟩ => ?_
  subst he
  exact ⟨_, rfl, _, _, _, [], _, [], hW', trodAll_mk1 (shut_bool Tryd.underlying4 _), (trodAll_cons_mk (Below.trod FnExactLiftText_laidOut (by kernel_rfl) (of_decide_eq_true (by kernel_rfl)) h0 bel lt0) trodAll_mk0), rfl, bel.frame _, fun h => by cases h⟩
theorem FnExactLiftText_row : Rows.FnExactLiftTextSaid :=
  OpenClaim.holds_of_wide 3 Tryd.f3 rfl rfl rfl rfl rfl rfl rfl ⟨rfl, rfl, rfl, rfl, rfl⟩ rfl rfl rfl rfl rfl (by kernel_rfl) Tryd.func3 (by kernel_rfl)
    (of_decide_eq_true (by kernel_rfl)) (by unfold Func.isWrapper; first | (rw [if_pos (by decide +kernel)]; kernel_rfl) | (rw [if_neg (by decide +kernel)]; exact ⟨rfl, rfl⟩))
    (fun os started H enc _ => FnExactLiftText_lifted os started H enc)
theorem FnExactLiftText_stand : ∀ t ∈ ([24] : List Nat), Tryd.prog.wantsStandIn t = false := by
  intro t hm
  rcases List.mem_cons.1 hm with rfl | hm
  · kernel_rfl
  cases hm
/-- THE STATEMENT: the tied card. -/
theorem FnExactLiftText_holds : Rows.FnExactLiftTextCardSaid :=
  Claim7.holds_tied_plain_at .later [] [.data, .data, .data] true (true, "913f6dd12a267f4e9f7e03e657e152ab87660774eaf43c9b9d1ebd656d094e7b") false
    FnExactLiftText_row (fun _ h => by cases h) (by kernel_rfl) (fun _ h => by cases h) fnExactLiftText_row_tie rfl ⟨rfl, rfl⟩ (by kernel_rfl) rfl
    (fun f fn hf hfn => by
      obtain rfl : f = 3 := Option.some.inj ((show Tryd.prog.funcNamed "loop.example/g01003/laws.FnExactLiftText" = some 3 by kernel_rfl).symm.trans hf) |>.symm
      obtain rfl : fn = Tryd.f3 := (Option.some.inj (Tryd.func3.symm.trans hfn)).symm
      exact ⟨by kernel_rfl, fun j t ht => by
        rw [Tryd.params3] at ht
        exact FnExactLiftText_stand t (by simpa using Array.mem_of_getElem? ht)⟩)
    (by kernel_rfl)
#print axioms FnExactLiftText_holds
end Go.Proofs.YtlajjggemadajaaDoor
