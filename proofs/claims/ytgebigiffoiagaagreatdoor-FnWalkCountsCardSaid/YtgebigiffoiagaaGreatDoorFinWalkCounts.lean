/-
  FnWalkCounts answers true whatever comes in, and what comes in reads behind the call as it did.
  Conditions: none.
-/
import Derived.WalkKit
import Derived.ProofKit
import Derived.OpenShut
import Derived.ShutString
import Derived.ChangeOld
import Derived.Below
import Derived.LaidMore
import Derived.Stop.Joined
import Derived.Stop.LaidErr
import Derived.SevenTiedAt
import Derived.MakeChecks
import Derived.Test.YtgebigiffoiagaaGreatDoorRows
import Derived.Test.YtgebigiffoiagaaGreatDoorCards
import Derived.Test.YtgebigiffoiagaaGreatDoorTie
import Derived.Test.YtgebigiffoiagaaGreatDoorPvCx
import Derived.Test.YtgebigiffoiagaaGreatDoorWWalkCounts
import Derived.Test.YtgebigiffoiagaaGreatDoorPlAx
set_option linter.all false
namespace Go.Proofs.YtgebigiffoiagaaGreatDoor
open Go.ChangeShapes Go.WideShapes Go.ChangeAt Go.RowKit Go.PV
open Go.ChangeMaps (open_string shut_string)
set_option linter.unusedVariables false
theorem FnWalkCounts_own : ownKnob Tryz.prog.godebug = none := by kernel_rfl
theorem FnWalkCounts_laidOut : laidOutB Tryz.prog = true := by kernel_rfl
set_option maxRecDepth 100000 in
theorem FnWalkCounts_met (os : Os) (args : Array Value) : laidMetH Tryz.prog Rows.fnWalkCountsRow.laid ((World.doorLaid Tryz.prog 4000 os).forCall (fun _ _ => 0) ⟨#[], args, []⟩).memory :=
  laidMetH_of_parts3 (fuel := 8) (laidMet_of_run' 8 (by kernel_rfl) (by kernel_rfl)) (by kernel_rfl) (by kernel_rfl)
theorem FnWalkCounts_tabs {W : World} (h : laidMetH Tryz.prog Rows.fnWalkCountsRow.laid W) : Tabs Tryz.prog (fun b => b < W.heap.size) W := by
  rw [MakeChecks.laidMetH_plain _ _ _ (by kernel_rfl)] at h
  exact tabs_of_head (g := (Tryz.prog.globalNamed "internal/strconv.uint64pow10").getD 0) (t := 105) (e := 50) (n := 20) (by kernel_rfl) (by kernel_rfl) (by kernel_rfl) (by kernel_rfl) ⟨by kernel_rfl, by kernel_rfl⟩ (laidMet.tail (laidMet.tail h))
set_option maxRecDepth 100000 in
theorem FnWalkCounts_lifted (os : Os) (started : os.Started) (H : Type) (enc : TypeId × Value → H) :
    ReturnsInHanded {} Tryz.checked os 3 .any (fun w args => (Rows.fnWalkCountsSpec.pre enc Tryz.prog Tryz.f3 [] false w args ∧ laidMetH Tryz.prog Rows.fnWalkCountsRow.laid w) ∧ sizedMet enc Tryz.prog Tryz.f3 (OpenSpec.ofChange Rows.fnWalkCountsSpec) false w args) (Rows.fnWalkCountsSpec.post enc Tryz.prog Tryz.f3 false true false false) := by
  refine returnsInHanded_of_change_and (C := Tryz.checked) (X := fun w _ => laidMetH Tryz.prog Rows.fnWalkCountsRow.laid w) (fun _ _ _ hh h => h.of_heap hh) FnWalkCounts_own started (by kernel_rfl) Tryz.func3
    (ChangeSpec.witness_shaped (enc := enc) (C := Tryz.checked) (os := os) (X := fun w _ => laidMetH Tryz.prog Rows.fnWalkCountsRow.laid w) false (World.doorLaid Tryz.prog 4000 os) #[.slice none 0 0, .slice none 0 0] 8 rfl (World.shaped_of_RefB (by kernel_rfl) (by kernel_rfl)) (by kernel_rfl) (by kernel_rfl) (by kernel_rfl) (FnWalkCounts_met os _)) ?_
  intro W base args ds gs before hval0 hW _ _ hL _
  have hval : ∀ (j : Nat) t v, Tryz.f3.params[j]? = some t → args[j]? = some v → Value.okWide Tryz.prog W .any base t v := hval0
  have hW' := hW
  obtain ⟨p, q, hA0, hV, rfl, hfz, hnd⟩ := hW
  have hA : DataW.TrodAll enc Tryz.prog W 0 (fun _ => true) true Tryz.f3.params.toList args.toList ds p := hA0
  rw [Tryz.params3] at hA hval
  obtain ⟨v0, vs0, d0, ds0, p0, q0, hargs, rfl, rfl, h0, r0⟩ := trodAll_cons hA
  obtain ⟨v1, vs1, d1, ds1, p1, q1, rfl, rfl, rfl, h1, r1⟩ := trodAll_cons r0
  obtain ⟨rfl, rfl, rfl⟩ := trodAll_nil r1
  obtain rfl : args = #[v0, v1] := by cases args; simp_all
  obtain ⟨rfl, rfl⟩ := trodVars_none hV
  have lt0 : ∀ x ∈ p0, x.block < W.heap.size := by obtain ⟨m, hm⟩ := h0; exact DataW.trod_lt m _ _ _ hm
  obtain ⟨a0, ok0, hf0⟩ := arg_of (n := 12) (T := (.sl (.int .u8))) (by kernel_rfl) (hval 0 22 v0 rfl rfl) h0
  have lt1 : ∀ x ∈ p1, x.block < W.heap.size := by obtain ⟨m, hm⟩ := h1; exact DataW.trod_lt m _ _ _ hm
  obtain ⟨a1, ok1, hf1⟩ := arg_of (n := 12) (T := (.sl (.int .u8))) (by kernel_rfl) (hval 1 22 v1 rfl rfl) h1
  refine (law_calls (W := W) (vals := #[v0, v1]) (FnWalkCounts_tabs hL) (wk_laws_FnWalkCounts (laws_FnWalkCounts_eq a0 a1 (bytes_of ok0) (bytes_of ok1))) rfl ⟨hf0, ⟨hf1, trivial⟩⟩).mono fun e W' ⟨he, bel⟩ => ?_
  subst he
  exact ⟨_, rfl, _, _, _, [], _, [], hW', trodAll_mk1 (shut_bool Tryz.underlying4 _), (trodAll_cons_mk (Below.trod FnWalkCounts_laidOut (by kernel_rfl) (of_decide_eq_true (by kernel_rfl)) h0 bel lt0) (trodAll_cons_mk (Below.trod FnWalkCounts_laidOut (by kernel_rfl) (of_decide_eq_true (by kernel_rfl)) h1 bel lt1) trodAll_mk0)), rfl, bel.frame _, fun h => by cases h⟩
theorem FnWalkCounts_row : Rows.FnWalkCountsSaid :=
  OpenClaim.holds_of_wide 3 Tryz.f3 rfl rfl rfl rfl rfl rfl rfl ⟨rfl, rfl, rfl, rfl, rfl⟩ rfl rfl rfl rfl rfl (by kernel_rfl) Tryz.func3 (by kernel_rfl)
    (of_decide_eq_true (by kernel_rfl)) (by unfold Func.isWrapper; first | (rw [if_pos (by decide +kernel)]; kernel_rfl) | (rw [if_neg (by decide +kernel)]; exact ⟨rfl, rfl⟩))
    (fun os started H enc _ => FnWalkCounts_lifted os started H enc)
theorem FnWalkCounts_stand : ∀ t ∈ ([22, 22] : List Nat), Tryz.prog.wantsStandIn t = false := by
  intro t hm
  rcases List.mem_cons.1 hm with rfl | hm
  · kernel_rfl
  rcases List.mem_cons.1 hm with rfl | hm
  · kernel_rfl
  cases hm
/-- THE STATEMENT: the tied card. -/
theorem FnWalkCounts_holds : Rows.FnWalkCountsCardSaid :=
  Claim7.holds_tied_plain_at .later [] [.data, .data, .data] true (true, "647b68a9626183e6f3cf091a2034781e8040bbe8abd24690a0f5d91ca163eeb0") false
    FnWalkCounts_row (fun _ h => by cases h) (by kernel_rfl) (fun _ h => by cases h) fnWalkCounts_row_tie rfl ⟨rfl, rfl⟩ (by kernel_rfl) rfl
    (fun f fn hf hfn => by
      obtain rfl : f = 3 := Option.some.inj ((show Tryz.prog.funcNamed "loop.example/g01003/laws.FnWalkCounts" = some 3 by kernel_rfl).symm.trans hf) |>.symm
      obtain rfl : fn = Tryz.f3 := (Option.some.inj (Tryz.func3.symm.trans hfn)).symm
      exact ⟨by kernel_rfl, fun j t ht => by
        rw [Tryz.params3] at ht
        exact FnWalkCounts_stand t (by simpa using Array.mem_of_getElem? ht)⟩)
    (by kernel_rfl)
#print axioms FnWalkCounts_holds
end Go.Proofs.YtgebigiffoiagaaGreatDoor
