/-
  FnKneading answers true whatever comes in, and what comes in reads behind the call as it did.
  Conditions: none.
-/
import Derived.WalkKit
import Derived.ProofKit
import Derived.OpenShut
import Derived.ShutString
import Derived.ChangeOld
import Derived.Below
import Derived.LaidMore
import Derived.Stop.Joined
import Derived.Stop.LaidErr
import Derived.SevenTiedAt
import Derived.MakeChecks
import Derived.Lay
import Derived.Test.YtgamijfefbhklaaGreatDoorRows
import Derived.Test.YtgamijfefbhklaaGreatDoorCards
import Derived.Test.YtgamijfefbhklaaGreatDoorTie
import Derived.Test.YtgamijfefbhklaaGreatDoorPvCx
import Derived.Test.YtgamijfefbhklaaGreatDoorWKneading
import Derived.Test.YtgamijfefbhklaaGreatDoorPlAx
set_option linter.all false
namespace Go.Proofs.YtgamijfefbhklaaGreatDoor
open Go.ChangeShapes Go.WideShapes Go.ChangeAt Go.RowKit Go.PV
open Go.ChangeMaps (open_string shut_string)
set_option linter.unusedVariables false
theorem FnKneading_own : ownKnob Tryz.prog.godebug = none := by kernel_rfl
theorem FnKneading_laidOut : laidOutB Tryz.prog = true := by kernel_rfl
set_option maxRecDepth 100000 in
theorem FnKneading_met (os : Os) (args : Array Value) : laidMetH Tryz.prog Rows.fnKneadingRow.laid ((World.laidAll Tryz.prog os Rows.fnKneadingRow.laid).forCall (fun _ _ => 0) ⟨#[], args, []⟩).memory :=
  by rw [MakeChecks.laidMetH_plain _ _ _ (by kernel_rfl)]; exact laidMet_laidAll _ (by kernel_rfl) (by kernel_rfl)
set_option maxRecDepth 100000 in
theorem FnKneading_lifted (os : Os) (started : os.Started) (H : Type) (enc : TypeId × Value → H) :
    ReturnsInHanded {} Tryz.checked os 4 .any (fun w args => (Rows.fnKneadingSpec.pre enc Tryz.prog Tryz.f4 [] false w args ∧ laidMetH Tryz.prog Rows.fnKneadingRow.laid w) ∧ sizedMet enc Tryz.prog Tryz.f4 (OpenSpec.ofChange Rows.fnKneadingSpec) false w args) (Rows.fnKneadingSpec.post enc Tryz.prog Tryz.f4 false true false false) := by
  refine returnsInHanded_of_change_and (C := Tryz.checked) (X := fun w _ => laidMetH Tryz.prog Rows.fnKneadingRow.laid w) (fun _ _ _ hh h => h.of_heap hh) FnKneading_own started (by kernel_rfl) Tryz.func4
    (ChangeSpec.witness_shaped (enc := enc) (C := Tryz.checked) (os := os) (X := fun w _ => laidMetH Tryz.prog Rows.fnKneadingRow.laid w) false (World.laidAll Tryz.prog os Rows.fnKneadingRow.laid) #[.slice none 0 0, .slice none 0 0] 8 (World.laidAll_os _ _ _) (World.shaped_of_ZipB (by kernel_rfl) (by kernel_rfl)) (by kernel_rfl) (by kernel_rfl) (by kernel_rfl) (FnKneading_met os _)) ?_
  intro W base args ds gs before hval0 hW _ _ hL _
  have hval : ∀ (j : Nat) t v, Tryz.f4.params[j]? = some t → args[j]? = some v → Value.okWide Tryz.prog W .any base t v := hval0
  have hW' := hW
  obtain ⟨p, q, hA0, hV, rfl, hfz, hnd⟩ := hW
  have hA : DataW.TrodAll enc Tryz.prog W 0 (fun _ => true) true Tryz.f4.params.toList args.toList ds p := hA0
  rw [Tryz.params4] at hA hval
  obtain ⟨v0, vs0, d0, ds0, p0, q0, hargs, rfl, rfl, h0, r0⟩ := trodAll_cons hA
  obtain ⟨v1, vs1, d1, ds1, p1, q1, rfl, rfl, rfl, h1, r1⟩ := trodAll_cons r0
  obtain ⟨rfl, rfl, rfl⟩ := trodAll_nil r1
  obtain rfl : args = #[v0, v1] := by cases args; simp_all
  obtain ⟨rfl, rfl⟩ := trodVars_none hV
  have lt0 : ∀ x ∈ p0, x.block < W.heap.size := by obtain ⟨m, hm⟩ := h0; exact DataW.trod_lt m _ _ _ hm
  obtain ⟨a0, ok0, hf0⟩ := arg_of (n := 12) (T := (.sl (.int .u8))) (by kernel_rfl) (hval 0 28 v0 rfl rfl) h0
  have lt1 : ∀ x ∈ p1, x.block < W.heap.size := by obtain ⟨m, hm⟩ := h1; exact DataW.trod_lt m _ _ _ hm
  obtain ⟨a1, ok1, hf1⟩ := arg_of (n := 12) (T := (.sl (.int .u8))) (by kernel_rfl) (hval 1 28 v1 rfl rfl) h1
  refine (law_calls (W := W) (vals := #[v0, v1]) (tabs_none (by kernel_rfl)) (wk_laws_FnKneading (laws_FnKneading_eq a0 a1 (bytes_of ok0) (bytes_of ok1))) rfl ⟨hf0, ⟨hf1, trivial⟩⟩).mono fun e W' ⟨he, bel⟩ => ?_
  subst he
  exact ⟨_, rfl, _, _, _, [], _, [], hW', trodAll_mk1 (shut_bool Tryz.underlying4 _), (trodAll_cons_mk (Below.trod FnKneading_laidOut (by kernel_rfl) (of_decide_eq_true (by kernel_rfl)) h0 bel lt0) (trodAll_cons_mk (Below.trod FnKneading_laidOut (by kernel_rfl) (of_decide_eq_true (by kernel_rfl)) h1 bel lt1) trodAll_mk0)), rfl, bel.frame _, fun h => by cases h⟩
theorem FnKneading_row : Rows.FnKneadingSaid :=
  OpenClaim.holds_of_wide 4 Tryz.f4 rfl rfl rfl rfl rfl rfl rfl ⟨rfl, rfl, rfl, rfl, rfl⟩ rfl rfl rfl rfl rfl (by kernel_rfl) Tryz.func4 (by kernel_rfl)
    (of_decide_eq_true (by kernel_rfl)) (by unfold Func.isWrapper; first | (rw [if_pos (by decide +kernel)]; kernel_rfl) | (rw [if_neg (by decide +kernel)]; exact ⟨rfl, rfl⟩))
    (fun os started H enc _ => FnKneading_lifted os started H enc)
theorem FnKneading_stand : ∀ t ∈ ([28, 28] : List Nat), Tryz.prog.wantsStandIn t = false := by
  intro t hm
  rcases List.mem_cons.1 hm with rfl | hm
  · kernel_rfl
  rcases List.mem_cons.1 hm with rfl | hm
  · kernel_rfl
  cases hm
/-- THE STATEMENT: the tied card. -/
theorem FnKneading_holds : Rows.FnKneadingCardSaid :=
  Claim7.holds_tied_plain_at .later [] [.data, .pinned] true (true, "3715503fa09e1745ded76272b24762831e50af5212f40f1e77425e652f435179") false
    FnKneading_row (fun _ h => by cases h) (by kernel_rfl) (fun _ h => by cases h) fnKneading_row_tie rfl ⟨rfl, rfl⟩ (by kernel_rfl) rfl
    (fun f fn hf hfn => by
      obtain rfl : f = 4 := Option.some.inj ((show Tryz.prog.funcNamed "loop.example/g01003/laws.FnKneading" = some 4 by kernel_rfl).symm.trans hf) |>.symm
      obtain rfl : fn = Tryz.f4 := (Option.some.inj (Tryz.func4.symm.trans hfn)).symm
      exact ⟨by kernel_rfl, fun j t ht => by
        rw [Tryz.params4] at ht
        exact FnKneading_stand t (by simpa using Array.mem_of_getElem? ht)⟩)
    (by kernel_rfl)
#print axioms FnKneading_holds
end Go.Proofs.YtgamijfefbhklaaGreatDoor
