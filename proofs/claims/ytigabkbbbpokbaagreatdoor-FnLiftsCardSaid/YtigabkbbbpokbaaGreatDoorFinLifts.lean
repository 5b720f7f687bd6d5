/-
  FnLifts answers true whatever comes in, and what comes in reads behind the call as it did.
  Conditions: none.
-/
import Derived.WalkKit
import Derived.ProofKit
import Derived.OpenShut
import Derived.ShutString
import Derived.ChangeOld
import Derived.Below
import Derived.LaidMore
import Derived.Stop.Joined
import Derived.Stop.LaidErr
import Derived.SevenTiedAt
import Derived.MakeChecks
import Derived.Test.YtigabkbbbpokbaaGreatDoorRows
import Derived.Test.YtigabkbbbpokbaaGreatDoorPvCx
import Derived.Test.YtigabkbbbpokbaaGreatDoorCards
import Derived.Test.YtigabkbbbpokbaaGreatDoorTie
import Derived.Test.YtigabkbbbpokbaaGreatDoorWLifts
import Derived.Test.YtigabkbbbpokbaaGreatDoorPlAx
set_option linter.all false
namespace Go.Proofs.YtigabkbbbpokbaaGreatDoor
open Go.ChangeShapes Go.WideShapes Go.ChangeAt Go.RowKit Go.PV
open Go.ChangeMaps (open_string shut_string)
set_option linter.unusedVariables false
theorem FnLifts_own : ownKnob Tryz.prog.godebug = none := by kernel_rfl
theorem FnLifts_laidOut : laidOutB Tryz.prog = true := by kernel_rfl
set_option maxRecDepth 100000 in
theorem FnLifts_met (os : Os) (args : Array Value) : laidMetH Tryz.prog Rows.fnLiftsRow.laid ((World.doorLaid Tryz.prog 4000 os).forCall (fun _ _ => 0) ⟨#[], args, []⟩).memory :=
  laidMetH_of_parts3 (fuel := 8) (laidMet_of_run' 8 (by kernel_rfl) (by kernel_rfl)) (by kernel_rfl) (by kernel_rfl)
theorem FnLifts_errStr (u : TypeId) (h : Tryz.prog.typeName? 3 u = some "*errors.errorString") : u = 160 :=
  have star : "*" ++ "errors.errorString" = "*errors.errorString" := by decide
  typeName_ptr_named (nm := "errors.errorString") (by rw [star]; kernel_rfl) (by kernel_rfl) (by decide) u (by rw [star]; exact h)
theorem FnLifts_tabs {W : World} (h : laidMetH Tryz.prog Rows.fnLiftsRow.laid W) (hsh : W.ShapedOpen Tryz.prog) : Tabs Tryz.prog (fun b => b < W.heap.size) W := by
  rw [MakeChecks.laidMetH_plain _ _ _ (by kernel_rfl)] at h
  exact ynb1 (g := (Tryz.prog.globalNamed "internal/strconv.uint64pow10").getD 0) (t := 155) (e := 70) (n := 20) (by kernel_rfl) (by kernel_rfl) (by kernel_rfl) (by kernel_rfl) ⟨by kernel_rfl, by kernel_rfl⟩ (laidMet.tail (laidMet.tail h)) (yhp1 (g0 := ((Tryz.prog.globalNamed "internal/bytealg.MaxLen").getD 0)) (g1 := ((Tryz.prog.globalNamed "strconv.ErrSyntax").getD 0)) (g2 := ((Tryz.prog.globalNamed "strconv.ErrRange").getD 0)) (by kernel_rfl) (by kernel_rfl) (by kernel_rfl)
    (Go.Proofs.cell_of_shapedOpen_int (zero := #[.int .i64 0]) (t := 3) hsh (of_decide_eq_true (by kernel_rfl)) (by kernel_rfl) rfl (by kernel_rfl) (by kernel_rfl) Tryz.underlying3)
    (yzc1 (g := ((Tryz.prog.globalNamed "strconv.ErrSyntax").getD 0)) (tp := 160) (te := 162) (ts := 9) (laidMet.tail (laidMet.tail (laidMet.tail (laidMet.tail h)))) (by kernel_rfl) (show _ = some 102 by kernel_rfl) Tryz.underlying102 FnLifts_errStr Tryz.underlying160 Tryz.underlying162 rfl rfl Tryz.underlying9 (by kernel_rfl) (by kernel_rfl))
    (yzc1 (g := ((Tryz.prog.globalNamed "strconv.ErrRange").getD 0)) (tp := 160) (te := 162) (ts := 9) (laidMet.tail (laidMet.tail (laidMet.tail h))) (by kernel_rfl) (show _ = some 102 by kernel_rfl) Tryz.underlying102 FnLifts_errStr Tryz.underlying160 Tryz.underlying162 rfl rfl Tryz.underlying9 (by kernel_rfl) (by kernel_rfl)))
set_option maxRecDepth 100000 in
theorem FnLifts_lifted (os : Os) (started : os.Started) (H : Type) (enc : TypeId × Value → H) :
    ReturnsInHanded {} Tryz.checked os 3 .any (fun w args => (Rows.fnLiftsSpec.pre enc Tryz.prog Tryz.f3 [] false w args ∧ laidMetH Tryz.prog Rows.fnLiftsRow.laid w) ∧ sizedMet enc Tryz.prog Tryz.f3 (OpenSpec.ofChange Rows.fnLiftsSpec) false w args) (Rows.fnLiftsSpec.post enc Tryz.prog Tryz.f3 false true false false) := by
  refine yce1 (C := Tryz.checked) (X := fun w _ => laidMetH Tryz.prog Rows.fnLiftsRow.laid w) (fun _ _ _ hh h => h.of_heap hh) FnLifts_own started (by kernel_rfl) Tryz.func3
    (ChangeSpec.witness_shaped (enc := enc) (C := Tryz.checked) (os := os) (X := fun w _ => laidMetH Tryz.prog Rows.fnLiftsRow.laid w) false (World.doorLaid Tryz.prog 4000 os) #[.slice none 0 0, .slice none 0 0] 8 rfl (World.shaped_of_RefB (by kernel_rfl) (by kernel_rfl)) (by kernel_rfl) (by kernel_rfl) (by kernel_rfl) (FnLifts_met os _)) ?_
  intro W base args ds gs before hval0 hW hL hsh
  have hval : ∀ (j : Nat) t v, Tryz.f3.params[j]? = some t → args[j]? = some v → Value.okWide Tryz.prog W .any base t v := hval0
  have hW' := hW
  obtain ⟨p, q, hA0, hV, rfl, hfz, hnd⟩ := hW
  have hA : DataW.TrodAll enc Tryz.prog W 0 (fun _ => true) true Tryz.f3.params.toList args.toList ds p := hA0
  rw [Tryz.params3] at hA hval
  obtain ⟨v0, vs0, d0, ds0, p0, q0, hargs, rfl, rfl, h0, r0⟩ := trodAll_cons hA
  obtain ⟨v1, vs1, d1, ds1, p1, q1, rfl, rfl, rfl, h1, r1⟩ := trodAll_cons r0
  obtain ⟨rfl, rfl, rfl⟩ := trodAll_nil r1
  obtain rfl : args = #[v0, v1] := by cases args; simp_all
  obtain ⟨rfl, rfl⟩ := trodVars_none hV
  have lt0 : ∀ x ∈ p0, x.block < W.heap.size := by obtain ⟨m, hm⟩ := h0; exact DataW.trod_lt m _ _ _ hm
  obtain ⟨a0, ok0, hf0⟩ := ygp1 (n := 12) (T := (.sl (.int .u8))) (by kernel_rfl) (hval 0 22 v0 rfl rfl) h0
  have lt1 : ∀ x ∈ p1, x.block < W.heap.size := by obtain ⟨m, hm⟩ := h1; exact DataW.trod_lt m _ _ _ hm
  obtain ⟨a1, ok1, hf1⟩ := ygp1 (n := 12) (T := (.sl (.int .u8))) (by kernel_rfl) (hval 1 22 v1 rfl rfl) h1
  refine (yaj1 (W := W) (vals := #[v0, v1]) (FnLifts_tabs hL hsh) (wk_laws_FnLifts (laws_FnLifts_eq a0 a1 (yoh1 ok0) (yoh1 ok1))) rfl ⟨hf0, ⟨hf1, trivial⟩⟩).mono fun e W' ⟨he, bel⟩ => ?_
  subst he
  exact ⟨_, rfl, _, _, _, [], _, [], hW', trodAll_mk1 (shut_bool Tryz.underlying4 _), (trodAll_cons_mk (Below.trod FnLifts_laidOut (by kernel_rfl) (of_decide_eq_true (by kernel_rfl)) h0 bel lt0) (trodAll_cons_mk (Below.trod FnLifts_laidOut (by kernel_rfl) (of_decide_eq_true (by kernel_rfl)) h1 bel lt1) trodAll_mk0)), rfl, bel.frame _, fun h => by cases h⟩
theorem FnLifts_row : Rows.FnLiftsSaid :=
  OpenClaim.holds_of_wide 3 Tryz.f3 rfl rfl rfl rfl rfl rfl rfl ⟨rfl, rfl, rfl, rfl, rfl⟩ rfl rfl rfl rfl rfl (by kernel_rfl) Tryz.func3 (by kernel_rfl)
    (of_decide_eq_true (by kernel_rfl)) (by unfold Func.isWrapper; first | (rw [if_pos (by decide +kernel)]; kernel_rfl) | (rw [if_neg (by decide +kernel)]; exact ⟨rfl, rfl⟩))
    (fun os started H enc _ => FnLifts_lifted os started H enc)
theorem FnLifts_stand : ∀ t ∈ ([22, 22] : List Nat), Tryz.prog.wantsStandIn t = false := by
  intro t hm
  rcases List.mem_cons.1 hm with rfl | hm
  · kernel_rfl
  rcases List.mem_cons.1 hm with rfl | hm
  · kernel_rfl
  cases hm
/-- THE STATEMENT: the tied card. -/
theorem FnLifts_holds : Rows.FnLiftsCardSaid :=
  Claim7.holds_tied_plain_at .later [] [.data, .data, .data, .sentinel, .sentinel] true (true, "6cc84935ae4de8f9de0d0943d4e5bebb76aacba9de42d901ae2de946a7f623ba") true
    FnLifts_row (fun _ h => by cases h) (by kernel_rfl) (fun _ h => by cases h) fnLifts_row_tie rfl ⟨rfl, rfl⟩ (by kernel_rfl) rfl
    (fun f fn hf hfn => by
      obtain rfl : f = 3 := Option.some.inj ((show Tryz.prog.funcNamed "loop.example/g01003/laws.FnLifts" = some 3 by kernel_rfl).symm.trans hf) |>.symm
      obtain rfl : fn = Tryz.f3 := (Option.some.inj (Tryz.func3.symm.trans hfn)).symm
      exact ⟨by kernel_rfl, fun j t ht => by
        rw [Tryz.params3] at ht
        exact FnLifts_stand t (by simpa using Array.mem_of_getElem? ht)⟩)
    (by kernel_rfl)
#print axioms FnLifts_holds
end Go.Proofs.YtigabkbbbpokbaaGreatDoor
