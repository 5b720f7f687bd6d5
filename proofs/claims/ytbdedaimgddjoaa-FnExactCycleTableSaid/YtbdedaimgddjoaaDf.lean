/-
  Plain definitions of what the functions answer.
  Conditions: none.
-/
import Derived.Test.YtbdedaimgddjoaaPvCx
set_option linter.all false
namespace Go.PV
noncomputable def laws_toIntS_k1  (x2 : (List Int)) : Option (List Int) :=
  some x2
noncomputable def laws_toIntS_b1 (a0 : (List Int)) (x3 : ((List Int) × Int)) : Option (((List Int) × Int) ⊕ (List Int)) :=
  if (decide (x3.2 < (a0.length : Int))) = true then
    (idxO a0 x3.2).bind fun v6 =>
    (idxO x3.1 x3.2).bind fun v7 =>
    some (.inl ((x3.1.set (Int.toNat x3.2) v6), (w64 (x3.2 + 1))))
  else
    some (.inr x3.1)
noncomputable def laws_toIntS (a0 : (List Int)) : Option (List Int) :=
  (guardO (0 ≤ (a0.length : Int) ∧ (a0.length : Int) ≤ 1099511627776)).bind fun u1 =>
  (loopO (laws_toIntS_b1 a0) ((List.replicate (Int.toNat (a0.length : Int)) (0 : Int)), 0)).bind fun y4 => laws_toIntS_k1 y4
noncomputable def spec_l1In (a0 : Int) (a1 : Int) (a2 : Int) : Option Bool :=
  some ((decide (a0 ≥ a1)) && (decide (a0 ≤ a2)))
noncomputable def spec_l1All_k1  (x1 : Unit) : Option Bool :=
  some true
noncomputable def spec_l1All_b1 (a0 : (List Int)) (a1 : Int) (a2 : Int) (x2 : Int) : Option (Int ⊕ (Bool ⊕ Unit)) :=
  if (decide (x2 < (a0.length : Int))) = true then
    (idxO a0 x2).bind fun v5 =>
    (spec_l1In v5 a1 a2).bind fun v6 =>
    if (!v6) = true then
      some (.inr (.inl false))
    else
      some (.inl (w64 (x2 + 1)))
  else
    some (.inr (.inr ()))
noncomputable def spec_l1All (a0 : (List Int)) (a1 : Int) (a2 : Int) : Option Bool :=
  (loopO (spec_l1All_b1 a0 a1 a2) 0).bind fun y3 => (Sum.elim (fun p => some p) (fun p => spec_l1All_k1 p)) y3
noncomputable def spec_gwVector (a0 : (List Int)) : Option Bool :=
  (spec_l1In (a0.length : Int) 1 8).bind fun v1 =>
  (if v1 = true then
      (spec_l1All a0 1 1000000).bind fun v2 =>
      some v2
    else
      some false).bind fun w3 =>
  some w3
noncomputable def spec_IsVector (a0 : (List Int)) : Option Bool :=
  (spec_gwVector a0).bind fun v1 =>
  some v1
noncomputable def impl_within (a0 : Int) (a1 : Int) (a2 : Int) : Option Bool :=
  some ((decide (a1 ≤ a0)) && (decide (a0 ≤ a2)))
noncomputable def slices_IndexFunc_Lint_int_k1  (x1 : Unit) : Option Int :=
  some (-1)
noncomputable def slices_IndexFunc_Lint_int_b1 (a0 : (List Int)) (a1 : Int → Option Bool) (x2 : Int) : Option (Int ⊕ (Int ⊕ Unit)) :=
  if (decide (x2 < (a0.length : Int))) = true then
    (idxO a0 x2).bind fun v5 =>
    (a1 v5).bind fun v6 =>
    if v6 = true then
      some (.inr (.inl x2))
    else
      some (.inl (w64 (x2 + 1)))
  else
    some (.inr (.inr ()))
noncomputable def slices_IndexFunc_Lint_int (a0 : (List Int)) (a1 : (Int → Option Bool)) : Option Int :=
  (loopO (slices_IndexFunc_Lint_int_b1 a0 a1) 0).bind fun y3 => (Sum.elim (fun p => some p) (fun p => slices_IndexFunc_Lint_int_k1 p)) y3
noncomputable def slices_ContainsFunc_Lint_int (a0 : (List Int)) (a1 : (Int → Option Bool)) : Option Bool :=
  (slices_IndexFunc_Lint_int a0 a1).bind fun v1 =>
  some (decide (v1 ≥ 0))
noncomputable def impl_isVector_1 (a0 : Int) : Option Bool :=
  (impl_within a0 1 1000000).bind fun v1 =>
  some (!v1)
noncomputable def impl_isVector (a0 : (List Int)) : Option Bool :=
  (impl_within (a0.length : Int) 1 8).bind fun v1 =>
  (if v1 = true then
      (slices_ContainsFunc_Lint_int a0 (fun x0 => impl_isVector_1 x0)).bind fun v2 =>
      some (!v2)
    else
      some false).bind fun w3 =>
  some w3
noncomputable def impl_IsVector (a0 : (List Int)) : Option Bool :=
  (impl_isVector a0).bind fun v1 =>
  some v1
noncomputable def laws_eqIntS_k1  (x2 : Unit) : Option Bool :=
  some true
noncomputable def laws_eqIntS_b1 (a0 : (List Int)) (a1 : (List Int)) (x3 : Int) : Option (Int ⊕ (Bool ⊕ Unit)) :=
  if (decide (x3 < (a0.length : Int))) = true then
    (idxO a0 x3).bind fun v6 =>
    (idxO a1 x3).bind fun v7 =>
    if (v6 != v7) = true then
      some (.inr (.inl false))
    else
      some (.inl (w64 (x3 + 1)))
  else
    some (.inr (.inr ()))
noncomputable def laws_eqIntS (a0 : (List Int)) (a1 : (List Int)) : Option Bool :=
  if ((a0.length : Int) != (a1.length : Int)) = true then
    some false
  else
    (loopO (laws_eqIntS_b1 a0 a1) 0).bind fun y4 => (Sum.elim (fun p => some p) (fun p => laws_eqIntS_k1 p)) y4
noncomputable def laws_FnExactIsVector (a0 : (List Int)) : Option Bool :=
  if (decide ((a0.length : Int) > 1048576)) = true then
    some true
  else
    (laws_toIntS a0).bind fun v2 =>
    (spec_IsVector v2).bind fun v3 =>
    (laws_toIntS a0).bind fun v4 =>
    (impl_IsVector v4).bind fun v5 =>
    if (!(v5 == v3)) = true then
      some false
    else
      (laws_toIntS a0).bind fun v7 =>
      (laws_eqIntS v4 v7).bind fun v8 =>
      if (!v8) = true then
        some false
      else
        some true
noncomputable def laws_szIntS (a0 : (List Int)) (a1 : Int) : Option Int :=
  if (decide ((w64 (a1 - (a0.length : Int))) < 0)) = true then
    some (-1)
  else
    some (w64 (a1 - (a0.length : Int)))
noncomputable def laws_szIntSS_k1  (x2 : Int) : Option Int :=
  some x2
noncomputable def laws_szIntSS_b1 (a0 : (List (List Int))) (x3 : (Int × Int)) : Option ((Int × Int) ⊕ (Int ⊕ Int)) :=
  if (decide (x3.2 < (a0.length : Int))) = true then
    (idxO a0 x3.2).bind fun v6 =>
    (laws_szIntS v6 x3.1).bind fun v7 =>
    if (decide (v7 < 0)) = true then
      some (.inr (.inl (-1)))
    else
      some (.inl (v7, (w64 (x3.2 + 1))))
  else
    some (.inr (.inr x3.1))
noncomputable def laws_szIntSS (a0 : (List (List Int))) (a1 : Int) : Option Int :=
  if (decide ((w64 (a1 - (a0.length : Int))) < 0)) = true then
    some (-1)
  else
    (loopO (laws_szIntSS_b1 a0) ((w64 (a1 - (a0.length : Int))), 0)).bind fun y4 => (Sum.elim (fun p => some p) (fun p => laws_szIntSS_k1 p)) y4
noncomputable def laws_toIntSS_k1  (x2 : (List (List Int))) : Option (List (List Int)) :=
  some x2
noncomputable def laws_toIntSS_b1 (a0 : (List (List Int))) (x3 : ((List (List Int)) × Int)) : Option (((List (List Int)) × Int) ⊕ (List (List Int))) :=
  if (decide (x3.2 < (a0.length : Int))) = true then
    (idxO a0 x3.2).bind fun v6 =>
    (laws_toIntS v6).bind fun v7 =>
    (idxO x3.1 x3.2).bind fun v8 =>
    some (.inl ((x3.1.set (Int.toNat x3.2) v7), (w64 (x3.2 + 1))))
  else
    some (.inr x3.1)
noncomputable def laws_toIntSS (a0 : (List (List Int))) : Option (List (List Int)) :=
  (guardO (0 ≤ (a0.length : Int) ∧ (a0.length : Int) ≤ 1099511627776)).bind fun u1 =>
  (loopO (laws_toIntSS_b1 a0) ((List.replicate (Int.toNat (a0.length : Int)) ([] : (List Int))), 0)).bind fun y4 => laws_toIntSS_k1 y4
noncomputable def spec_grGood_k1  (x3 : Unit) : Option Bool :=
  some true
noncomputable def spec_grGood_b1 (a0 : (List (List Int))) (x4 : Int) : Option (Int ⊕ (Bool ⊕ Unit)) :=
  if (decide (x4 < (a0.length : Int))) = true then
    (idxO a0 x4).bind fun v7 =>
    (if ((v7.length : Int) != (a0.length : Int)) = true then
        some true
      else
        (spec_l1All v7 0 9).bind fun v8 =>
        some (!v8)).bind fun w9 =>
    if w9 = true then
      some (.inr (.inl false))
    else
      some (.inl (w64 (x4 + 1)))
  else
    some (.inr (.inr ()))
noncomputable def spec_grGood (a0 : (List (List Int))) : Option Bool :=
  (spec_l1In (a0.length : Int) 1 8).bind fun v1 =>
  if (!v1) = true then
    some false
  else
    (loopO (spec_grGood_b1 a0) 0).bind fun y5 => (Sum.elim (fun p => some p) (fun p => spec_grGood_k1 p)) y5
noncomputable def slices_IndexFunc_LLint_Lint_k1  (x1 : Unit) : Option Int :=
  some (-1)
noncomputable def slices_IndexFunc_LLint_Lint_b1 (a0 : (List (List Int))) (a1 : (List Int) → Option Bool) (x2 : Int) : Option (Int ⊕ (Int ⊕ Unit)) :=
  if (decide (x2 < (a0.length : Int))) = true then
    (idxO a0 x2).bind fun v5 =>
    (a1 v5).bind fun v6 =>
    if v6 = true then
      some (.inr (.inl x2))
    else
      some (.inl (w64 (x2 + 1)))
  else
    some (.inr (.inr ()))
noncomputable def slices_IndexFunc_LLint_Lint (a0 : (List (List Int))) (a1 : ((List Int) → Option Bool)) : Option Int :=
  (loopO (slices_IndexFunc_LLint_Lint_b1 a0 a1) 0).bind fun y3 => (Sum.elim (fun p => some p) (fun p => slices_IndexFunc_LLint_Lint_k1 p)) y3
noncomputable def slices_ContainsFunc_LLint_Lint (a0 : (List (List Int))) (a1 : ((List Int) → Option Bool)) : Option Bool :=
  (slices_IndexFunc_LLint_Lint a0 a1).bind fun v1 =>
  some (decide (v1 ≥ 0))
noncomputable def impl_isGraph_1_1 (a0 : Int) : Option Bool :=
  (impl_within a0 0 9).bind fun v1 =>
  some (!v1)
noncomputable def impl_isGraph_1 (a0 : (List Int)) (c0 : (List (List Int))) : Option Bool :=
  (if ((a0.length : Int) != (c0.length : Int)) = true then
      some true
    else
      (slices_ContainsFunc_Lint_int a0 (fun x0 => impl_isGraph_1_1 x0)).bind fun v1 =>
      some v1).bind fun w2 =>
  some w2
noncomputable def impl_isGraph (a0 : (List (List Int))) : Option Bool :=
  (impl_within (a0.length : Int) 1 8).bind fun v1 =>
  (if v1 = true then
      (slices_ContainsFunc_LLint_Lint a0 (fun x0 => impl_isGraph_1 x0 a0)).bind fun v2 =>
      some (!v2)
    else
      some false).bind fun w3 =>
  some w3
noncomputable def laws_eqIntSS_k1  (x2 : Unit) : Option Bool :=
  some true
noncomputable def laws_eqIntSS_b1 (a0 : (List (List Int))) (a1 : (List (List Int))) (x3 : Int) : Option (Int ⊕ (Bool ⊕ Unit)) :=
  if (decide (x3 < (a0.length : Int))) = true then
    (idxO a0 x3).bind fun v6 =>
    (idxO a1 x3).bind fun v7 =>
    (laws_eqIntS v6 v7).bind fun v8 =>
    if (!v8) = true then
      some (.inr (.inl false))
    else
      some (.inl (w64 (x3 + 1)))
  else
    some (.inr (.inr ()))
noncomputable def laws_eqIntSS (a0 : (List (List Int))) (a1 : (List (List Int))) : Option Bool :=
  if ((a0.length : Int) != (a1.length : Int)) = true then
    some false
  else
    (loopO (laws_eqIntSS_b1 a0 a1) 0).bind fun y4 => (Sum.elim (fun p => some p) (fun p => laws_eqIntSS_k1 p)) y4
noncomputable def laws_markIntS_k1  (x1 : ((List Int) × Int)) : Option (Int × (List Int)) :=
  some (x1.2, x1.1)
noncomputable def laws_markIntS_b1  (x2 : ((List Int) × Int × Int)) : Option (((List Int) × Int × Int) ⊕ ((List Int) × Int)) :=
  if (decide (x2.2.2 < (x2.1.length : Int))) = true then
    (idxO x2.1 x2.2.2).bind fun v5 =>
    some (.inl ((x2.1.set (Int.toNat x2.2.2) x2.2.1), (w64 (x2.2.1 + 1)), (w64 (x2.2.2 + 1))))
  else
    some (.inr (x2.1, x2.2.1))
noncomputable def laws_markIntS (a0 : (List Int)) (a1 : Int) : Option (Int × (List Int)) :=
  (loopO laws_markIntS_b1 (a0, a1, 0)).bind fun y3 => laws_markIntS_k1 y3
noncomputable def laws_markIntSS_k1  (x1 : ((List (List Int)) × Int)) : Option (Int × (List (List Int))) :=
  some (x1.2, x1.1)
noncomputable def laws_markIntSS_b1  (x2 : ((List (List Int)) × Int × Int)) : Option (((List (List Int)) × Int × Int) ⊕ ((List (List Int)) × Int)) :=
  if (decide (x2.2.2 < (x2.1.length : Int))) = true then
    (idxO x2.1 x2.2.2).bind fun v5 =>
    (laws_markIntS v5 x2.2.1).bind fun v6 =>
    some (.inl ((x2.1.set (Int.toNat x2.2.2) v6.2), v6.1, (w64 (x2.2.2 + 1))))
  else
    some (.inr (x2.1, x2.2.1))
noncomputable def laws_markIntSS (a0 : (List (List Int))) (a1 : Int) : Option (Int × (List (List Int))) :=
  (loopO laws_markIntSS_b1 (a0, a1, 0)).bind fun y3 => laws_markIntSS_k1 y3
noncomputable def laws_heldIntS_k1  (x1 : Int) : Option Int :=
  some x1
noncomputable def laws_heldIntS_b1 (a0 : (List Int)) (x2 : (Int × Int)) : Option ((Int × Int) ⊕ (Int ⊕ Int)) :=
  if (decide (x2.2 < (a0.length : Int))) = true then
    (idxO a0 x2.2).bind fun v5 =>
    if (v5 != x2.1) = true then
      some (.inr (.inl (-1)))
    else
      some (.inl ((w64 (x2.1 + 1)), (w64 (x2.2 + 1))))
  else
    some (.inr (.inr x2.1))
noncomputable def laws_heldIntS (a0 : (List Int)) (a1 : Int) : Option Int :=
  (loopO (laws_heldIntS_b1 a0) (a1, 0)).bind fun y3 => (Sum.elim (fun p => some p) (fun p => laws_heldIntS_k1 p)) y3
noncomputable def spec_grSteps (a0 : Int) : Option Bool :=
  (spec_l1In a0 0 12).bind fun v1 =>
  some v1
noncomputable def spec_l1Least (a0 : Int) (a1 : Int) : Option Int :=
  if (decide (a0 < a1)) = true then
    some a0
  else
    some a1
noncomputable def spec_grCap (a0 : Int) : Option Int :=
  (spec_l1Least a0 1000000001).bind fun v1 =>
  some v1
noncomputable def spec_grPower_k2  (x2 : (List (List Int))) : Option (List (List Int)) :=
  some x2
noncomputable def spec_grPower_k3 (x3 : (Int × (List (List Int)))) (x6 : (List (List Int))) : Option ((Int × (List (List Int))) ⊕ (List (List Int))) :=
  some (.inl ((w64 (x3.1 - 1)), x6))
noncomputable def spec_grPower_k4 (x3 : (Int × (List (List Int)))) (x7 : (List (List Int))) : Option ((Int × (List (List Int))) ⊕ (List (List Int))) :=
  spec_grPower_k3 x3 x7
noncomputable def spec_grPower_k5 (x8 : ((List (List Int)) × Int)) (x11 : (List (List Int))) : Option (((List (List Int)) × Int) ⊕ (List (List Int))) :=
  some (.inl (x11, (w64 (x8.2 + 1))))
noncomputable def spec_grPower_k6 (x8 : ((List (List Int)) × Int)) (x13 : (List Int)) : Option (((List (List Int)) × Int) ⊕ (List (List Int))) :=
  (guardO (x8.1.length + ([x13]).length ≤ 1099511627776)).bind fun u14 =>
  spec_grPower_k5 x8 (x8.1 ++ [x13])
noncomputable def spec_grPower_k7 (x15 : ((List Int) × Int)) (x18 : (List Int)) : Option (((List Int) × Int) ⊕ (List Int)) :=
  some (.inl (x18, (w64 (x15.2 + 1))))
noncomputable def spec_grPower_b4 (a0 : (List (List Int))) (x3 : (Int × (List (List Int)))) (x8 : ((List (List Int)) × Int)) (x15 : ((List Int) × Int)) (x19 : ((List Int) × Int)) : Option (((List Int) × Int) ⊕ (List Int)) :=
  if (decide (x19.2 < (a0.length : Int))) = true then
    (idxO x19.1 x15.2).bind fun v22 =>
    (idxO x3.2 x8.2).bind fun v23 =>
    (idxO v23 x19.2).bind fun v24 =>
    (idxO a0 x19.2).bind fun v25 =>
    (idxO v25 x15.2).bind fun v26 =>
    (spec_grCap (w64 (v22 + (w64 (v24 * v26))))).bind fun v27 =>
    some (.inl ((x19.1.set (Int.toNat x15.2) v27), (w64 (x19.2 + 1))))
  else
    some (.inr x19.1)
noncomputable def spec_grPower_b3 (a0 : (List (List Int))) (x3 : (Int × (List (List Int)))) (x8 : ((List (List Int)) × Int)) (x15 : ((List Int) × Int)) : Option (((List Int) × Int) ⊕ (List Int)) :=
  if (decide (x15.2 < (a0.length : Int))) = true then
    (loopO (spec_grPower_b4 a0 x3 x8 x15) (x15.1, 0)).bind fun y20 => spec_grPower_k7 x15 y20
  else
    some (.inr x15.1)
noncomputable def spec_grPower_b2 (a0 : (List (List Int))) (x3 : (Int × (List (List Int)))) (x8 : ((List (List Int)) × Int)) : Option (((List (List Int)) × Int) ⊕ (List (List Int))) :=
  if (decide (x8.2 < (a0.length : Int))) = true then
    (guardO (0 ≤ (a0.length : Int) ∧ (a0.length : Int) ≤ 1099511627776)).bind fun u12 =>
    (loopO (spec_grPower_b3 a0 x3 x8) ((List.replicate (Int.toNat (a0.length : Int)) (0 : Int)), 0)).bind fun y16 => spec_grPower_k6 x8 y16
  else
    some (.inr x8.1)
noncomputable def spec_grPower_b1 (a0 : (List (List Int))) (x3 : (Int × (List (List Int)))) : Option ((Int × (List (List Int))) ⊕ (List (List Int))) :=
  if (decide (x3.1 > 0)) = true then
    (loopO (spec_grPower_b2 a0 x3) ([], 0)).bind fun y9 => spec_grPower_k4 x3 y9
  else
    some (.inr x3.2)
noncomputable def spec_grPower_k1 (a0 : (List (List Int))) (a1 : Int) (x1 : (List (List Int))) : Option (List (List Int)) :=
  (loopO (spec_grPower_b1 a0) (a1, x1)).bind fun y4 => spec_grPower_k2 y4
noncomputable def spec_grPower_b5 (a0 : (List (List Int))) (x28 : ((List (List Int)) × Int)) : Option (((List (List Int)) × Int) ⊕ (List (List Int))) :=
  if (decide (x28.2 < (a0.length : Int))) = true then
    (guardO (0 ≤ (a0.length : Int) ∧ (a0.length : Int) ≤ 1099511627776)).bind fun u31 =>
    (guardO (x28.1.length + ([(List.replicate (Int.toNat (a0.length : Int)) (0 : Int))]).length ≤ 1099511627776)).bind fun u32 =>
    (idxO (x28.1 ++ [(List.replicate (Int.toNat (a0.length : Int)) (0 : Int))]) x28.2).bind fun v33 =>
    (idxO v33 x28.2).bind fun v34 =>
    some (.inl (((x28.1 ++ [(List.replicate (Int.toNat (a0.length : Int)) (0 : Int))]).set (Int.toNat x28.2) (v33.set (Int.toNat x28.2) 1)), (w64 (x28.2 + 1))))
  else
    some (.inr x28.1)
noncomputable def spec_grPower (a0 : (List (List Int))) (a1 : Int) : Option (List (List Int)) :=
  (loopO (spec_grPower_b5 a0) ([], 0)).bind fun y29 => spec_grPower_k1 a0 a1 y29
noncomputable def spec_gwTotal_k1  (x1 : Int) : Option Int :=
  some x1
noncomputable def spec_gwTotal_k2 (x3 : (Int × Int)) (x6 : Int) : Option ((Int × Int) ⊕ Int) :=
  some (.inl (x6, (w64 (x3.2 + 1))))
noncomputable def spec_gwTotal_b2 (v7 : (List Int)) (x8 : (Int × Int)) : Option ((Int × Int) ⊕ Int) :=
  if (decide (x8.2 < (v7.length : Int))) = true then
    (idxO v7 x8.2).bind fun v11 =>
    (spec_grCap (w64 (x8.1 + v11))).bind fun v12 =>
    some (.inl (v12, (w64 (x8.2 + 1))))
  else
    some (.inr x8.1)
noncomputable def spec_gwTotal_b1 (v2 : (List (List Int))) (x3 : (Int × Int)) : Option ((Int × Int) ⊕ Int) :=
  if (decide (x3.2 < (v2.length : Int))) = true then
    (idxO v2 x3.2).bind fun v7 =>
    (loopO (spec_gwTotal_b2 v7) (x3.1, 0)).bind fun y9 => spec_gwTotal_k2 x3 y9
  else
    some (.inr x3.1)
noncomputable def spec_gwTotal (a0 : (List (List Int))) (a1 : Int) : Option Int :=
  (spec_grPower a0 a1).bind fun v2 =>
  (loopO (spec_gwTotal_b1 v2) (0, 0)).bind fun y4 => spec_gwTotal_k1 y4
noncomputable def spec_TotalWalks (a0 : (List (List Int))) (a1 : Int) : Option (Int × Bool) :=
  (spec_grGood a0).bind fun v1 =>
  (if (!v1) = true then
      some true
    else
      (spec_grSteps a1).bind fun v2 =>
      if (!v2) = true then
        some true
      else
        (spec_gwTotal a0 a1).bind fun v3 =>
        some (decide (v3 > 1000000000))).bind fun w4 =>
  if w4 = true then
    some (0, false)
  else
    (spec_gwTotal a0 a1).bind fun v6 =>
    some (v6, true)
noncomputable def impl_isWalk (a0 : (List (List Int))) (a1 : Int) : Option Bool :=
  (impl_isGraph a0).bind fun v1 =>
  (if v1 = true then
      (impl_within a1 0 12).bind fun v2 =>
      some v2
    else
      some false).bind fun w3 =>
  some w3
noncomputable def impl_emptyGraph_k1  (x2 : (List (List Int))) : Option (List (List Int)) :=
  some x2
noncomputable def impl_emptyGraph_b1 (a0 : Int) (x3 : ((List (List Int)) × Int)) : Option (((List (List Int)) × Int) ⊕ (List (List Int))) :=
  if (decide (x3.2 < ((List.replicate (Int.toNat a0) ([] : (List Int))).length : Int))) = true then
    (idxO x3.1 x3.2).bind fun v6 =>
    some (.inl ((x3.1.set (Int.toNat x3.2) (List.replicate (Int.toNat a0) (0 : Int))), (w64 (x3.2 + 1))))
  else
    some (.inr x3.1)
noncomputable def impl_emptyGraph (a0 : Int) : Option (List (List Int)) :=
  (guardO (0 ≤ a0 ∧ a0 ≤ 1099511627776)).bind fun u1 =>
  (loopO (impl_emptyGraph_b1 a0) ((List.replicate (Int.toNat a0) ([] : (List Int))), 0)).bind fun y4 => impl_emptyGraph_k1 y4
noncomputable def impl_powerUpTo_k2  (x3 : (List (List Int))) : Option (List (List Int)) :=
  some x3
noncomputable def impl_powerUpTo_k3 (x4 : ((List (List Int)) × Int)) (x7 : (List (List Int))) : Option (((List (List Int)) × Int) ⊕ (List (List Int))) :=
  some (.inl (x7, (w64 (x4.2 + 1))))
noncomputable def impl_powerUpTo_k4 (x4 : ((List (List Int)) × Int)) (x9 : (List (List Int))) : Option (((List (List Int)) × Int) ⊕ (List (List Int))) :=
  impl_powerUpTo_k3 x4 x9
noncomputable def impl_powerUpTo_k5 (x10 : ((List (List Int)) × Int)) (x13 : (List (List Int))) : Option (((List (List Int)) × Int) ⊕ (List (List Int))) :=
  some (.inl (x13, (w64 (x10.2 + 1))))
noncomputable def impl_powerUpTo_k6 (x15 : ((List (List Int)) × Int)) (x18 : (List (List Int))) : Option (((List (List Int)) × Int) ⊕ (List (List Int))) :=
  some (.inl (x18, (w64 (x15.2 + 1))))
noncomputable def impl_powerUpTo_b4 (a2 : Int) (x10 : ((List (List Int)) × Int)) (v19 : Int) (v20 : (List Int)) (x21 : ((List (List Int)) × Int)) : Option (((List (List Int)) × Int) ⊕ (List (List Int))) :=
  if (decide (x21.2 < (v20.length : Int))) = true then
    (idxO v20 x21.2).bind fun v24 =>
    (idxO x21.1 x10.2).bind fun v25 =>
    (idxO v25 x21.2).bind fun v26 =>
    some (.inl ((x21.1.set (Int.toNat x10.2) (v25.set (Int.toNat x21.2) (if a2 < (w64 (v26 + (w64 (v19 * v24)))) then a2 else (w64 (v26 + (w64 (v19 * v24))))))), (w64 (x21.2 + 1))))
  else
    some (.inr x21.1)
noncomputable def impl_powerUpTo_b3 (a0 : (List (List Int))) (a2 : Int) (x10 : ((List (List Int)) × Int)) (v14 : (List Int)) (x15 : ((List (List Int)) × Int)) : Option (((List (List Int)) × Int) ⊕ (List (List Int))) :=
  if (decide (x15.2 < (v14.length : Int))) = true then
    (idxO v14 x15.2).bind fun v19 =>
    (idxO a0 x15.2).bind fun v20 =>
    (loopO (impl_powerUpTo_b4 a2 x10 v19 v20) (x15.1, 0)).bind fun y22 => impl_powerUpTo_k6 x15 y22
  else
    some (.inr x15.1)
noncomputable def impl_powerUpTo_b2 (a0 : (List (List Int))) (a2 : Int) (x4 : ((List (List Int)) × Int)) (x10 : ((List (List Int)) × Int)) : Option (((List (List Int)) × Int) ⊕ (List (List Int))) :=
  if (decide (x10.2 < (x4.1.length : Int))) = true then
    (idxO x4.1 x10.2).bind fun v14 =>
    (loopO (impl_powerUpTo_b3 a0 a2 x10 v14) (x10.1, 0)).bind fun y16 => impl_powerUpTo_k5 x10 y16
  else
    some (.inr x10.1)
noncomputable def impl_powerUpTo_b1 (a0 : (List (List Int))) (a1 : Int) (a2 : Int) (x4 : ((List (List Int)) × Int)) : Option (((List (List Int)) × Int) ⊕ (List (List Int))) :=
  if (decide (x4.2 < a1)) = true then
    (impl_emptyGraph (a0.length : Int)).bind fun v8 =>
    (loopO (impl_powerUpTo_b2 a0 a2 x4) (v8, 0)).bind fun y11 => impl_powerUpTo_k4 x4 y11
  else
    some (.inr x4.1)
noncomputable def impl_powerUpTo_k1 (a0 : (List (List Int))) (a1 : Int) (a2 : Int) (x2 : (List (List Int))) : Option (List (List Int)) :=
  (loopO (impl_powerUpTo_b1 a0 a1 a2) (x2, 0)).bind fun y5 => impl_powerUpTo_k2 y5
noncomputable def impl_powerUpTo_b5 (v1 : (List (List Int))) (x27 : ((List (List Int)) × Int)) : Option (((List (List Int)) × Int) ⊕ (List (List Int))) :=
  if (decide (x27.2 < (v1.length : Int))) = true then
    (idxO x27.1 x27.2).bind fun v30 =>
    (idxO v30 x27.2).bind fun v31 =>
    some (.inl ((x27.1.set (Int.toNat x27.2) (v30.set (Int.toNat x27.2) 1)), (w64 (x27.2 + 1))))
  else
    some (.inr x27.1)
noncomputable def impl_powerUpTo (a0 : (List (List Int))) (a1 : Int) (a2 : Int) : Option (List (List Int)) :=
  (impl_emptyGraph (a0.length : Int)).bind fun v1 =>
  (loopO (impl_powerUpTo_b5 v1) (v1, 0)).bind fun y28 => impl_powerUpTo_k1 a0 a1 a2 y28
noncomputable def impl_power (a0 : (List (List Int))) (a1 : Int) : Option (List (List Int)) :=
  (impl_powerUpTo a0 a1 1000000001).bind fun v1 =>
  some v1
noncomputable def impl_TotalWalks_k1  (x3 : Int) : Option (Int × Bool) :=
  if (decide (x3 > 1000000000)) = true then
    some (0, false)
  else
    some (x3, true)
noncomputable def impl_TotalWalks_k2 (x6 : (Int × Int)) (x9 : Int) : Option ((Int × Int) ⊕ Int) :=
  some (.inl (x9, (w64 (x6.2 + 1))))
noncomputable def impl_TotalWalks_b2 (v10 : (List Int)) (x11 : (Int × Int)) : Option ((Int × Int) ⊕ Int) :=
  if (decide (x11.2 < (v10.length : Int))) = true then
    (idxO v10 x11.2).bind fun v14 =>
    some (.inl ((w64 (x11.1 + v14)), (w64 (x11.2 + 1))))
  else
    some (.inr x11.1)
noncomputable def impl_TotalWalks_b1 (v5 : (List (List Int))) (x6 : (Int × Int)) : Option ((Int × Int) ⊕ Int) :=
  if (decide (x6.2 < (v5.length : Int))) = true then
    (idxO v5 x6.2).bind fun v10 =>
    (loopO (impl_TotalWalks_b2 v10) (x6.1, 0)).bind fun y12 => impl_TotalWalks_k2 x6 y12
  else
    some (.inr x6.1)
noncomputable def impl_TotalWalks (a0 : (List (List Int))) (a1 : Int) : Option (Int × Bool) :=
  (impl_isWalk a0 a1).bind fun v1 =>
  if (!v1) = true then
    some (0, false)
  else
    (impl_power a0 a1).bind fun v5 =>
    (loopO (impl_TotalWalks_b1 v5) (0, 0)).bind fun y7 => impl_TotalWalks_k1 y7
noncomputable def laws_FnExactTotalWalks (a0 : (List (List Int))) (a1 : Int) : Option Bool :=
  (laws_szIntSS a0 1048576).bind fun v1 =>
  if (decide (v1 < 0)) = true then
    some true
  else
    (laws_toIntSS a0).bind fun v3 =>
    (spec_TotalWalks v3 a1).bind fun v4 =>
    (laws_toIntSS a0).bind fun v5 =>
    (impl_TotalWalks v5 a1).bind fun v6 =>
    if ((v6.1 != v4.1) || (!(v6.2 == v4.2))) = true then
      some false
    else
      (laws_toIntSS a0).bind fun v8 =>
      (laws_eqIntSS v5 v8).bind fun v9 =>
      if (!v9) = true then
        some false
      else
        some true
noncomputable def spec_WalkDigits_k1  (x7 : Int) : Option (Int × Bool) :=
  some (x7, true)
noncomputable def spec_WalkDigits_b1  (x8 : (Int × Int)) : Option ((Int × Int) ⊕ Int) :=
  if (decide (x8.1 > 1)) = true then
    some (.inl ((w64 (Int.tdiv x8.1 2)), (w64 (x8.2 + 1))))
  else
    some (.inr x8.2)
noncomputable def spec_WalkDigits (a0 : (List (List Int))) (a1 : Int) : Option (Int × Bool) :=
  (spec_grGood a0).bind fun v1 =>
  (if (!v1) = true then
      some true
    else
      (spec_grSteps a1).bind fun v2 =>
      some (!v2)).bind fun w3 =>
  if w3 = true then
    some (0, false)
  else
    (spec_gwTotal a0 a1).bind fun v5 =>
    if ((v5 == 0) || (decide (v5 > 1000000000))) = true then
      some (0, false)
    else
      (loopO spec_WalkDigits_b1 (v5, 0)).bind fun y9 => spec_WalkDigits_k1 y9
noncomputable def impl_WalkDigits_k1  (x3 : Int) : Option (Int × Bool) :=
  some (x3, true)
noncomputable def impl_WalkDigits_b1  (x4 : (Int × Int)) : Option ((Int × Int) ⊕ Int) :=
  if (decide (x4.1 > 1)) = true then
    some (.inl ((w64 (Int.tdiv x4.1 2)), (w64 (x4.2 + 1))))
  else
    some (.inr x4.2)
noncomputable def impl_WalkDigits (a0 : (List (List Int))) (a1 : Int) : Option (Int × Bool) :=
  (impl_TotalWalks a0 a1).bind fun v1 =>
  if ((!v1.2) || (v1.1 == 0)) = true then
    some (0, false)
  else
    (loopO impl_WalkDigits_b1 (v1.1, 0)).bind fun y5 => impl_WalkDigits_k1 y5
noncomputable def laws_FnExactWalkDigits (a0 : (List (List Int))) (a1 : Int) : Option Bool :=
  (laws_szIntSS a0 1048576).bind fun v1 =>
  if (decide (v1 < 0)) = true then
    some true
  else
    (laws_toIntSS a0).bind fun v3 =>
    (spec_WalkDigits v3 a1).bind fun v4 =>
    (laws_toIntSS a0).bind fun v5 =>
    (impl_WalkDigits v5 a1).bind fun v6 =>
    if ((v6.1 != v4.1) || (!(v6.2 == v4.2))) = true then
      some false
    else
      (laws_toIntSS a0).bind fun v8 =>
      (laws_eqIntSS v5 v8).bind fun v9 =>
      if (!v9) = true then
        some false
      else
        some true
noncomputable def spec_zeLength (a0 : Int) : Option Bool :=
  (spec_l1In a0 1 12).bind fun v1 =>
  some v1
noncomputable def spec_grClosed_k1  (x1 : Int) : Option Int :=
  some x1
noncomputable def spec_grClosed_b1 (v2 : (List (List Int))) (x3 : (Int × Int)) : Option ((Int × Int) ⊕ Int) :=
  if (decide (x3.2 < (v2.length : Int))) = true then
    (idxO v2 x3.2).bind fun v6 =>
    (idxO v6 x3.2).bind fun v7 =>
    (spec_grCap (w64 (x3.1 + v7))).bind fun v8 =>
    some (.inl (v8, (w64 (x3.2 + 1))))
  else
    some (.inr x3.1)
noncomputable def spec_grClosed (a0 : (List (List Int))) (a1 : Int) : Option Int :=
  (spec_grPower a0 a1).bind fun v2 =>
  (loopO (spec_grClosed_b1 v2) (0, 0)).bind fun y4 => spec_grClosed_k1 y4
noncomputable def spec_zeCycles_r_k1 (a1 : Int) (x3 : Int) : Option Int :=
  (guardO (a1 ≠ 0)).bind fun u4 =>
  some (w64 (Int.tdiv x3 a1))
noncomputable def spec_zeCycles_r_b1 (rc : ((List (List Int)) → Int → Option Int)) (a0 : (List (List Int))) (a1 : Int) (x5 : (Int × Int)) : Option ((Int × Int) ⊕ Int) :=
  if (decide (x5.2 < a1)) = true then
    (guardO (x5.2 ≠ 0)).bind fun u8 =>
    if ((Int.tmod a1 x5.2) == 0) = true then
      (rc a0 x5.2).bind fun v10 =>
      some (.inl ((w64 (x5.1 - (w64 (x5.2 * v10)))), (w64 (x5.2 + 1))))
    else
      some (.inl (x5.1, (w64 (x5.2 + 1))))
  else
    some (.inr x5.1)
noncomputable def spec_zeCycles_r (rc : ((List (List Int)) → Int → Option Int)) (a0 : (List (List Int))) (a1 : Int) : Option Int :=
  (spec_grClosed a0 a1).bind fun v1 =>
  if (decide (v1 > 1000000000)) = true then
    some (-1)
  else
    (loopO (spec_zeCycles_r_b1 rc a0 a1) (v1, 1)).bind fun y6 => spec_zeCycles_r_k1 a1 y6
noncomputable def spec_zeCycles_f : Nat → (List (List Int)) → Int → Option Int
  | 0, _, _ => none
  | k + 1, a0, a1 => spec_zeCycles_r (spec_zeCycles_f k) a0 a1
noncomputable def spec_zeCycles (a0 : (List (List Int))) (a1 : Int) : Option Int := fuelO fun k => spec_zeCycles_f k a0 a1
noncomputable def spec_CycleCount (a0 : (List (List Int))) (a1 : Int) : Option (Int × Bool) :=
  (spec_grGood a0).bind fun v1 =>
  (if (!v1) = true then
      some true
    else
      (spec_zeLength a1).bind fun v2 =>
      if (!v2) = true then
        some true
      else
        (spec_zeCycles a0 a1).bind fun v3 =>
        some (decide (v3 < 0))).bind fun w4 =>
  if w4 = true then
    some (0, false)
  else
    (spec_zeCycles a0 a1).bind fun v6 =>
    some (v6, true)
noncomputable def impl_isLength (a0 : (List (List Int))) (a1 : Int) : Option Bool :=
  (impl_isGraph a0).bind fun v1 =>
  (if v1 = true then
      (impl_within a1 1 12).bind fun v2 =>
      some v2
    else
      some false).bind fun w3 =>
  some w3
noncomputable def impl_closedWalks_k1  (x1 : Int) : Option (Int × Bool) :=
  if (decide (x1 > 1000000000)) = true then
    some (0, false)
  else
    some (x1, true)
noncomputable def impl_closedWalks_b1 (v3 : (List (List Int))) (x4 : (Int × Int)) : Option ((Int × Int) ⊕ Int) :=
  if (decide (x4.2 < (v3.length : Int))) = true then
    (idxO v3 x4.2).bind fun v7 =>
    (idxO v7 x4.2).bind fun v8 =>
    some (.inl ((w64 (x4.1 + v8)), (w64 (x4.2 + 1))))
  else
    some (.inr x4.1)
noncomputable def impl_closedWalks (a0 : (List (List Int))) (a1 : Int) : Option (Int × Bool) :=
  (impl_power a0 a1).bind fun v3 =>
  (loopO (impl_closedWalks_b1 v3) (0, 0)).bind fun y5 => impl_closedWalks_k1 y5
noncomputable def impl_moebius_k1  (x1 : Int) : Option Int :=
  some x1
noncomputable def impl_moebius_b1  (x2 : (Int × Int × Int)) : Option ((Int × Int × Int) ⊕ (Int ⊕ Int)) :=
  if (decide (x2.2.2 ≤ x2.1)) = true then
    (guardO (x2.2.2 ≠ 0)).bind fun u5 =>
    if ((Int.tmod x2.1 x2.2.2) == 0) = true then
      if ((Int.tmod (w64 (Int.tdiv x2.1 x2.2.2)) x2.2.2) == 0) = true then
        some (.inr (.inl 0))
      else
        some (.inl ((w64 (Int.tdiv x2.1 x2.2.2)), (w64 (0 - x2.2.1)), (w64 (x2.2.2 + 1))))
    else
      some (.inl (x2.1, x2.2.1, (w64 (x2.2.2 + 1))))
  else
    some (.inr (.inr x2.2.1))
noncomputable def impl_moebius (a0 : Int) : Option Int :=
  (loopO impl_moebius_b1 (a0, 1, 2)).bind fun y3 => (Sum.elim (fun p => some p) (fun p => impl_moebius_k1 p)) y3
noncomputable def impl_cycleCount_k1 (a1 : Int) (x1 : Int) : Option (Int × Bool) :=
  (guardO (a1 ≠ 0)).bind fun u2 =>
  some ((w64 (Int.tdiv x1 a1)), true)
noncomputable def impl_cycleCount_b1 (a0 : (List (List Int))) (a1 : Int) (x3 : (Int × Int)) : Option ((Int × Int) ⊕ ((Int × Bool) ⊕ Int)) :=
  if (decide (x3.2 ≤ a1)) = true then
    (guardO (x3.2 ≠ 0)).bind fun u6 =>
    if ((Int.tmod a1 x3.2) == 0) = true then
      (impl_closedWalks a0 x3.2).bind fun v8 =>
      if (!v8.2) = true then
        some (.inr (.inl (0, false)))
      else
        (impl_moebius (w64 (Int.tdiv a1 x3.2))).bind fun v10 =>
        some (.inl ((w64 (x3.1 + (w64 (v10 * v8.1)))), (w64 (x3.2 + 1))))
    else
      some (.inl (x3.1, (w64 (x3.2 + 1))))
  else
    some (.inr (.inr x3.1))
noncomputable def impl_cycleCount (a0 : (List (List Int))) (a1 : Int) : Option (Int × Bool) :=
  (loopO (impl_cycleCount_b1 a0 a1) (0, 1)).bind fun y4 => (Sum.elim (fun p => some p) (fun p => impl_cycleCount_k1 a1 p)) y4
noncomputable def impl_CycleCount (a0 : (List (List Int))) (a1 : Int) : Option (Int × Bool) :=
  (impl_isLength a0 a1).bind fun v1 =>
  if (!v1) = true then
    some (0, false)
  else
    (impl_cycleCount a0 a1).bind fun v3 =>
    some v3
noncomputable def laws_FnExactCycleCount (a0 : (List (List Int))) (a1 : Int) : Option Bool :=
  (laws_szIntSS a0 1048576).bind fun v1 =>
  if (decide (v1 < 0)) = true then
    some true
  else
    (laws_toIntSS a0).bind fun v3 =>
    (spec_CycleCount v3 a1).bind fun v4 =>
    (laws_toIntSS a0).bind fun v5 =>
    (impl_CycleCount v5 a1).bind fun v6 =>
    if ((v6.1 != v4.1) || (!(v6.2 == v4.2))) = true then
      some false
    else
      (laws_toIntSS a0).bind fun v8 =>
      (laws_eqIntSS v5 v8).bind fun v9 =>
      if (!v9) = true then
        some false
      else
        some true
noncomputable def spec_CycleTable_k1  (x5 : (List Int)) : Option ((List Int) × Bool) :=
  some (x5, true)
noncomputable def spec_CycleTable_b1 (a0 : (List (List Int))) (a1 : Int) (x6 : ((List Int) × Int)) : Option (((List Int) × Int) ⊕ (((List Int) × Bool) ⊕ (List Int))) :=
  if (decide (x6.2 ≤ a1)) = true then
    (spec_zeCycles a0 x6.2).bind fun v9 =>
    if (decide (v9 < 0)) = true then
      some (.inr (.inl ([], false)))
    else
      (guardO (x6.1.length + ([v9]).length ≤ 1099511627776)).bind fun u11 =>
      some (.inl ((x6.1 ++ [v9]), (w64 (x6.2 + 1))))
  else
    some (.inr (.inr x6.1))
noncomputable def spec_CycleTable (a0 : (List (List Int))) (a1 : Int) : Option ((List Int) × Bool) :=
  (spec_grGood a0).bind fun v1 =>
  (if (!v1) = true then
      some true
    else
      (spec_zeLength a1).bind fun v2 =>
      some (!v2)).bind fun w3 =>
  if w3 = true then
    some ([], false)
  else
    (loopO (spec_CycleTable_b1 a0 a1) ([], 1)).bind fun y7 => (Sum.elim (fun p => some p) (fun p => spec_CycleTable_k1 p)) y7
noncomputable def impl_CycleTable_k1  (x3 : (List Int)) : Option ((List Int) × Bool) :=
  some (x3, true)
noncomputable def impl_CycleTable_b1 (a0 : (List (List Int))) (a1 : Int) (x4 : ((List Int) × Int)) : Option (((List Int) × Int) ⊕ (((List Int) × Bool) ⊕ (List Int))) :=
  if (decide (x4.2 ≤ a1)) = true then
    (impl_cycleCount a0 x4.2).bind fun v7 =>
    if (!v7.2) = true then
      some (.inr (.inl ([], false)))
    else
      (guardO (x4.1.length + ([v7.1]).length ≤ 1099511627776)).bind fun u9 =>
      some (.inl ((x4.1 ++ [v7.1]), (w64 (x4.2 + 1))))
  else
    some (.inr (.inr x4.1))
noncomputable def impl_CycleTable (a0 : (List (List Int))) (a1 : Int) : Option ((List Int) × Bool) :=
  (impl_isLength a0 a1).bind fun v1 =>
  if (!v1) = true then
    some ([], false)
  else
    (loopO (impl_CycleTable_b1 a0 a1) ([], 1)).bind fun y5 => (Sum.elim (fun p => some p) (fun p => impl_CycleTable_k1 p)) y5
noncomputable def laws_FnExactCycleTable (a0 : (List (List Int))) (a1 : Int) : Option Bool :=
  (laws_szIntSS a0 1048576).bind fun v1 =>
  if (decide (v1 < 0)) = true then
    some true
  else
    (laws_toIntSS a0).bind fun v3 =>
    (spec_CycleTable v3 a1).bind fun v4 =>
    (laws_toIntSS a0).bind fun v5 =>
    (impl_CycleTable v5 a1).bind fun v6 =>
    (laws_eqIntS v6.1 v4.1).bind fun v7 =>
    if ((!v7) || (!(v6.2 == v4.2))) = true then
      some false
    else
      (laws_toIntSS a0).bind fun v9 =>
      (laws_eqIntSS v5 v9).bind fun v10 =>
      if (!v10) = true then
        some false
      else
        (laws_markIntSS v5 1).bind fun v12 =>
        (if (decide (v12.1 < 0)) = true then
            some true
          else
            (laws_eqIntS v6.1 v4.1).bind fun v13 =>
            if (!v13) = true then
              some true
            else
              some (!(v6.2 == v4.2))).bind fun w14 =>
        if w14 = true then
          some false
        else
          (laws_markIntS v6.1 1).bind fun v16 =>
          (laws_heldIntS v16.2 1).bind fun v17 =>
          if (decide (v17 < 0)) = true then
            some false
          else
            if (v17 != v16.1) = true then
              some false
            else
              (laws_toIntSS a0).bind fun v20 =>
              (impl_CycleTable v20 a1).bind fun v21 =>
              (laws_eqIntS v21.1 v4.1).bind fun v22 =>
              if ((!v22) || (!(v21.2 == v4.2))) = true then
                some false
              else
                (laws_heldIntS v16.2 1).bind fun v24 =>
                if (decide (v24 < 0)) = true then
                  some false
                else
                  if (v24 != v16.1) = true then
                    some false
                  else
                    some true
noncomputable def laws_markRatS_k1  (x1 : ((List (Int × Int)) × Int)) : Option (Int × (List (Int × Int))) :=
  some (x1.2, x1.1)
noncomputable def laws_markRatS_b1  (x2 : ((List (Int × Int)) × Int × Int)) : Option (((List (Int × Int)) × Int × Int) ⊕ ((List (Int × Int)) × Int)) :=
  if (decide (x2.2.2 < (x2.1.length : Int))) = true then
    (idxO x2.1 x2.2.2).bind fun v5 =>
    (idxO (x2.1.set (Int.toNat x2.2.2) (x2.2.1, v5.2)) x2.2.2).bind fun v6 =>
    some (.inl (((x2.1.set (Int.toNat x2.2.2) (x2.2.1, v5.2)).set (Int.toNat x2.2.2) (v6.1, (w64 (x2.2.1 + 1)))), (w64 ((w64 (x2.2.1 + 1)) + 1)), (w64 (x2.2.2 + 1))))
  else
    some (.inr (x2.1, x2.2.1))
noncomputable def laws_markRatS (a0 : (List (Int × Int))) (a1 : Int) : Option (Int × (List (Int × Int))) :=
  (loopO laws_markRatS_b1 (a0, a1, 0)).bind fun y3 => laws_markRatS_k1 y3
noncomputable def laws_heldRatS_k1  (x1 : Int) : Option Int :=
  some x1
noncomputable def laws_heldRatS_b1 (a0 : (List (Int × Int))) (x2 : (Int × Int)) : Option ((Int × Int) ⊕ (Int ⊕ Int)) :=
  if (decide (x2.2 < (a0.length : Int))) = true then
    (idxO a0 x2.2).bind fun v5 =>
    if (v5.1 != x2.1) = true then
      some (.inr (.inl (-1)))
    else
      if (v5.2 != (w64 (x2.1 + 1))) = true then
        some (.inr (.inl (-1)))
      else
        some (.inl ((w64 ((w64 (x2.1 + 1)) + 1)), (w64 (x2.2 + 1))))
  else
    some (.inr (.inr x2.1))
noncomputable def laws_heldRatS (a0 : (List (Int × Int))) (a1 : Int) : Option Int :=
  (loopO (laws_heldRatS_b1 a0) (a1, 0)).bind fun y3 => (Sum.elim (fun p => some p) (fun p => laws_heldRatS_k1 p)) y3
end Go.PV
