/-
  Plain definitions of what the functions answer, and plain laws of them.
  Conditions: none.
-/
import Derived.Test.YtbdedaimgddjoaaPvRun6
set_option linter.all false
set_option linter.unusedVariables false
namespace Go.PV
noncomputable def laws_toIntS_k1  (x2 : (List Int)) : Option (List Int) :=
  some x2
noncomputable def laws_toIntS_b1 (a0 : (List Int)) (x3 : ((List Int) × Int)) : Option (((List Int) × Int) ⊕ (List Int)) :=
  if (decide (x3.2 < (a0.length : Int))) = true then
    (idxO a0 x3.2).bind fun v6 =>
    (idxO x3.1 x3.2).bind fun v7 =>
    some (.inl ((x3.1.set (Int.toNat x3.2) v6), (w64 (x3.2 + 1))))
  else
    some (.inr x3.1)
noncomputable def laws_toIntS (a0 : (List Int)) : Option (List Int) :=
  (guardO (0 ≤ (a0.length : Int) ∧ (a0.length : Int) ≤ 1099511627776)).bind fun u1 =>
  (loopO (laws_toIntS_b1 a0) ((List.replicate (Int.toNat (a0.length : Int)) (0 : Int)), 0)).bind fun y4 => laws_toIntS_k1 y4
noncomputable def spec_l1In (a0 : Int) (a1 : Int) (a2 : Int) : Option Bool :=
  some ((decide (a0 ≥ a1)) && (decide (a0 ≤ a2)))
noncomputable def spec_l1All_k1  (x1 : Unit) : Option Bool :=
  some true
noncomputable def spec_l1All_b1 (a0 : (List Int)) (a1 : Int) (a2 : Int) (x2 : Int) : Option (Int ⊕ (Bool ⊕ Unit)) :=
  if (decide (x2 < (a0.length : Int))) = true then
    (idxO a0 x2).bind fun v5 =>
    (spec_l1In v5 a1 a2).bind fun v6 =>
    if (!v6) = true then
      some (.inr (.inl false))
    else
      some (.inl (w64 (x2 + 1)))
  else
    some (.inr (.inr ()))
noncomputable def spec_l1All (a0 : (List Int)) (a1 : Int) (a2 : Int) : Option Bool :=
  (loopO (spec_l1All_b1 a0 a1 a2) 0).bind fun y3 => (Sum.elim (fun p => some p) (fun p => spec_l1All_k1 p)) y3
noncomputable def spec_gwVector (a0 : (List Int)) : Option Bool :=
  (spec_l1In (a0.length : Int) 1 8).bind fun v1 =>
  (if v1 = true then
      (spec_l1All a0 1 1000000).bind fun v2 =>
      some v2
    else
      some false).bind fun w3 =>
  some w3
noncomputable def spec_IsVector (a0 : (List Int)) : Option Bool :=
  (spec_gwVector a0).bind fun v1 =>
  some v1
noncomputable def impl_within (a0 : Int) (a1 : Int) (a2 : Int) : Option Bool :=
  some ((decide (a1 ≤ a0)) && (decide (a0 ≤ a2)))
noncomputable def slices_IndexFunc_Lint_int_k1  (x1 : Unit) : Option Int :=
  some (-1)
noncomputable def slices_IndexFunc_Lint_int_b1 (a0 : (List Int)) (a1 : Int → Option Bool) (x2 : Int) : Option (Int ⊕ (Int ⊕ Unit)) :=
  if (decide (x2 < (a0.length : Int))) = true then
    (idxO a0 x2).bind fun v5 =>
    (a1 v5).bind fun v6 =>
    if v6 = true then
      some (.inr (.inl x2))
    else
      some (.inl (w64 (x2 + 1)))
  else
    some (.inr (.inr ()))
noncomputable def slices_IndexFunc_Lint_int (a0 : (List Int)) (a1 : (Int → Option Bool)) : Option Int :=
  (loopO (slices_IndexFunc_Lint_int_b1 a0 a1) 0).bind fun y3 => (Sum.elim (fun p => some p) (fun p => slices_IndexFunc_Lint_int_k1 p)) y3
noncomputable def slices_ContainsFunc_Lint_int (a0 : (List Int)) (a1 : (Int → Option Bool)) : Option Bool :=
  (slices_IndexFunc_Lint_int a0 a1).bind fun v1 =>
  some (decide (v1 ≥ 0))
noncomputable def impl_isVector_1 (a0 : Int) : Option Bool :=
  (impl_within a0 1 1000000).bind fun v1 =>
  some (!v1)
noncomputable def impl_isVector (a0 : (List Int)) : Option Bool :=
  (impl_within (a0.length : Int) 1 8).bind fun v1 =>
  (if v1 = true then
      (slices_ContainsFunc_Lint_int a0 (fun x0 => impl_isVector_1 x0)).bind fun v2 =>
      some (!v2)
    else
      some false).bind fun w3 =>
  some w3
noncomputable def impl_IsVector (a0 : (List Int)) : Option Bool :=
  (impl_isVector a0).bind fun v1 =>
  some v1
noncomputable def laws_eqIntS_k1  (x2 : Unit) : Option Bool :=
  some true
noncomputable def laws_eqIntS_b1 (a0 : (List Int)) (a1 : (List Int)) (x3 : Int) : Option (Int ⊕ (Bool ⊕ Unit)) :=
  if (decide (x3 < (a0.length : Int))) = true then
    (idxO a0 x3).bind fun v6 =>
    (idxO a1 x3).bind fun v7 =>
    if (v6 != v7) = true then
      some (.inr (.inl false))
    else
      some (.inl (w64 (x3 + 1)))
  else
    some (.inr (.inr ()))
noncomputable def laws_eqIntS (a0 : (List Int)) (a1 : (List Int)) : Option Bool :=
  if ((a0.length : Int) != (a1.length : Int)) = true then
    some false
  else
    (loopO (laws_eqIntS_b1 a0 a1) 0).bind fun y4 => (Sum.elim (fun p => some p) (fun p => laws_eqIntS_k1 p)) y4
noncomputable def laws_FnExactIsVector (a0 : (List Int)) : Option Bool :=
  if (decide ((a0.length : Int) > 1048576)) = true then
    some true
  else
    (laws_toIntS a0).bind fun v2 =>
    (spec_IsVector v2).bind fun v3 =>
    (laws_toIntS a0).bind fun v4 =>
    (impl_IsVector v4).bind fun v5 =>
    if (!(v5 == v3)) = true then
      some false
    else
      (laws_toIntS a0).bind fun v7 =>
      (laws_eqIntS v4 v7).bind fun v8 =>
      if (!v8) = true then
        some false
      else
        some true
end Go.PV
