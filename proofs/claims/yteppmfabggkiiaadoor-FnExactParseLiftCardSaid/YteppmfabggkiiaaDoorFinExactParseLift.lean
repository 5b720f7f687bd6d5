/-
  FnExactParseLift answers true whatever comes in, and what comes in reads behind the call as it did.
  Conditions: none.
-/
import Derived.WalkKit
import Derived.ProofKit
import Derived.OpenShut
import Derived.ShutString
import Derived.ChangeOld
import Derived.Below
import Derived.LaidMore
import Derived.Stop.Joined
import Derived.Stop.LaidErr
import Derived.SevenTiedAt
import Derived.MakeChecks
import Derived.Test.YteppmfabggkiiaaDoorRows
import Derived.Test.YteppmfabggkiiaaDoorPvCx
import Derived.Test.YteppmfabggkiiaaDoorCards
import Derived.Test.YteppmfabggkiiaaDoorTie
import Derived.Test.YteppmfabggkiiaaDoorWExactParseLift
import Derived.Test.YteppmfabggkiiaaDoorPlAx
set_option linter.all false
namespace Go.Proofs.YteppmfabggkiiaaDoor
open Go.ChangeShapes Go.WideShapes Go.ChangeAt Go.RowKit Go.PV
open Go.ChangeMaps (open_string shut_string)
set_option linter.unusedVariables false
theorem FnExactParseLift_own : ownKnob Tryd.prog.godebug = none := by kernel_rfl
theorem FnExactParseLift_laidOut : laidOutB Tryd.prog = true := by kernel_rfl
set_option maxRecDepth 100000 in
theorem FnExactParseLift_met (os : Os) (args : Array Value) : laidMetH Tryd.prog Rows.fnExactParseLiftRow.laid ((World.doorLaid Tryd.prog 4000 os).forCall (fun _ _ => 0) ⟨#[], args, []⟩).memory :=
  laidMetH_of_parts3 (fuel := 8) (laidMet_of_run' 8 (by kernel_rfl) (by kernel_rfl)) (by kernel_rfl) (by kernel_rfl)
theorem FnExactParseLift_errStr (u : TypeId) (h : Tryd.prog.typeName? 3 u = some "*errors.errorString") : u = 91 :=
  have star : "*" ++ "errors.errorString" = "*errors.errorString" := by decide
  typeName_ptr_named (nm := "errors.errorString") (by rw [star]; kernel_rfl) (by kernel_rfl) (by decide) u (by rw [star]; exact h)
theorem FnExactParseLift_tabs {W : World} (h : laidMetH Tryd.prog Rows.fnExactParseLiftRow.laid W) (hsh : W.ShapedOpen Tryd.prog) : Tabs Tryd.prog (fun b => b < W.heap.size) W := by
  rw [MakeChecks.laidMetH_plain _ _ _ (by kernel_rfl)] at h
  exact tabs_of_head (g := (Tryd.prog.globalNamed "internal/strconv.uint64pow10").getD 0) (t := 100) (e := 81) (n := 20) (by kernel_rfl) (by kernel_rfl) (by kernel_rfl) (by kernel_rfl) ⟨by kernel_rfl, by kernel_rfl⟩ (laidMet.tail (laidMet.tail h)) (vars_of (g0 := ((Tryd.prog.globalNamed "internal/bytealg.MaxLen").getD 0)) (g1 := ((Tryd.prog.globalNamed "strconv.ErrSyntax").getD 0)) (g2 := ((Tryd.prog.globalNamed "strconv.ErrRange").getD 0)) (by kernel_rfl) (by kernel_rfl) (by kernel_rfl)
    (Go.Proofs.cell_of_shapedOpen_int (zero := #[.int .i64 0]) (t := 3) hsh (of_decide_eq_true (by kernel_rfl)) (by kernel_rfl) rfl (by kernel_rfl) (by kernel_rfl) Tryd.underlying3)
    (laid_held (g := ((Tryd.prog.globalNamed "strconv.ErrSyntax").getD 0)) (tp := 91) (te := 93) (ts := 9) (laidMet.tail (laidMet.tail (laidMet.tail (laidMet.tail h)))) (by kernel_rfl) (show _ = some 63 by kernel_rfl) Tryd.underlying63 FnExactParseLift_errStr Tryd.underlying91 Tryd.underlying93 rfl rfl Tryd.underlying9 (by kernel_rfl) (by kernel_rfl))
    (laid_held (g := ((Tryd.prog.globalNamed "strconv.ErrRange").getD 0)) (tp := 91) (te := 93) (ts := 9) (laidMet.tail (laidMet.tail (laidMet.tail h))) (by kernel_rfl) (show _ = some 63 by kernel_rfl) Tryd.underlying63 FnExactParseLift_errStr Tryd.underlying91 Tryd.underlying93 rfl rfl Tryd.underlying9 (by kernel_rfl) (by kernel_rfl)))
set_option maxRecDepth 100000 in
theorem FnExactParseLift_lifted (os : Os) (started : os.Started) (H : Type) (enc : TypeId × Value → H) :
    ReturnsInHanded {} Tryd.checked os 3 .any (fun w args => (Rows.fnExactParseLiftSpec.pre enc Tryd.prog Tryd.f3 [] false w args ∧ laidMetH Tryd.prog Rows.fnExactParseLiftRow.laid w) ∧ sizedMet enc Tryd.prog Tryd.f3 (OpenSpec.ofChange Rows.fnExactParseLiftSpec) false w args) (Rows.fnExactParseLiftSpec.post enc Tryd.prog Tryd.f3 false true false false) := by
  refine handed_both (C := Tryd.checked) (X := fun w _ => laidMetH Tryd.prog Rows.fnExactParseLiftRow.laid w) (fun _ _ _ hh h => h.of_heap hh) FnExactParseLift_own started (by kernel_rfl) Tryd.func3
    (ChangeSpec.witness_shaped (enc := enc) (C := Tryd.checked) (os := os) (X := fun w _ => laidMetH Tryd.prog Rows.fnExactParseLiftRow.laid w) false (World.doorLaid Tryd.prog 4000 os) #[.string ByteArray.empty] 8 rfl (World.shaped_of_RefB (by kernel_rfl) (by kernel_rfl)) (by kernel_rfl) (by kernel_rfl) (by kernel_rfl) (FnExactParseLift_met os _)) ?_
  intro W base args ds gs before hval0 hW hL hsh
  have hval : ∀ (j : Nat) t v, Tryd.f3.params[j]? = some t → args[j]? = some v → Value.okWide Tryd.prog W .any base t v := hval0
  have hW' := hW
  obtain ⟨p, q, hA0, hV, rfl, hfz, hnd⟩ := hW
  have hA : DataW.TrodAll enc Tryd.prog W 0 (fun _ => true) true Tryd.f3.params.toList args.toList ds p := hA0
  rw [Tryd.params3] at hA hval
  obtain ⟨v0, vs0, d0, ds0, p0, q0, hargs, rfl, rfl, h0, r0⟩ := trodAll_cons hA
  obtain ⟨rfl, rfl, rfl⟩ := trodAll_nil r0
  obtain rfl : args = #[v0] := by cases args; simp_all
  obtain ⟨rfl, rfl⟩ := trodVars_none hV
  have lt0 : ∀ x ∈ p0, x.block < W.heap.size := by obtain ⟨m, hm⟩ := h0; exact DataW.trod_lt m _ _ _ hm
  obtain ⟨a0, ok0, hf0⟩ := arg_of (n := 12) (T := .str) (by kernel_rfl) (hval 0 9 v0 rfl rfl) h0
  refine (law_calls (W := W) (vals := #[v0]) (FnExactParseLift_tabs hL hsh) (wk_laws_FnExactParseLift (laws_FnExactParseLift_eq a0)) rfl ⟨hf0, trivial⟩).mono fun e W' ⟨he, bel⟩ => ?_
  subst he
  exact ⟨_, rfl, _, _, _, [], _, [], hW', trodAll_mk1 (shut_bool Tryd.underlying4 _), (trodAll_cons_mk (Below.trod FnExactParseLift_laidOut (by kernel_rfl) (of_decide_eq_true (by kernel_rfl)) h0 bel lt0) trodAll_mk0), rfl, bel.frame _, fun h => by cases h⟩
theorem FnExactParseLift_row : Rows.FnExactParseLiftSaid :=
  OpenClaim.holds_of_wide 3 Tryd.f3 rfl rfl rfl rfl rfl rfl rfl ⟨rfl, rfl, rfl, rfl, rfl⟩ rfl rfl rfl rfl rfl (by kernel_rfl) Tryd.func3 (by kernel_rfl)
    (of_decide_eq_true (by kernel_rfl)) (by unfold Func.isWrapper; first | (rw [if_pos (by decide +kernel)]; kernel_rfl) | (rw [if_neg (by decide +kernel)]; exact ⟨rfl, rfl⟩))
    (fun os started H enc _ => FnExactParseLift_lifted os started H enc)
theorem FnExactParseLift_stand : ∀ t ∈ ([9] : List Nat), Tryd.prog.wantsStandIn t = false := by
  intro t hm
  rcases List.mem_cons.1 hm with rfl | hm
  · kernel_rfl
  cases hm
/-- THE STATEMENT: the tied card. -/
theorem FnExactParseLift_holds : Rows.FnExactParseLiftCardSaid :=
  Claim7.holds_tied_plain_at .later [] [.data, .data, .data, .sentinel, .sentinel] true (true, "db8f0c4d5faec9783788fe68d755abb9bf31639fd69ceeaad13990749a2ccc31") true
    FnExactParseLift_row (fun _ h => by cases h) (by kernel_rfl) (fun _ h => by cases h) fnExactParseLift_row_tie rfl ⟨rfl, rfl⟩ (by kernel_rfl) rfl
    (fun f fn hf hfn => by
      obtain rfl : f = 3 := Option.some.inj ((show Tryd.prog.funcNamed "loop.example/g01003/laws.FnExactParseLift" = some 3 by kernel_rfl).symm.trans hf) |>.symm
      obtain rfl : fn = Tryd.f3 := (Option.some.inj (Tryd.func3.symm.trans hfn)).symm
      exact ⟨by kernel_rfl, fun j t ht => by
        rw [Tryd.params3] at ht
        exact FnExactParseLift_stand t (by simpa using Array.mem_of_getElem? ht)⟩)
    (by kernel_rfl)
#print axioms FnExactParseLift_holds
end Go.Proofs.YteppmfabggkiiaaDoor
