/-
  Plain definitions of what the functions answer.
  Conditions: none.
-/
import Derived.Test.YtlajjggemadajaaPvCx
set_option linter.all false
namespace Go.PV
noncomputable def laws_toIntS_k1  (x2 : (List Int)) : Option (List Int) :=
  some x2
noncomputable def laws_toIntS_b1 (a0 : (List Int)) (x3 : ((List Int) × Int)) : Option (((List Int) × Int) ⊕ (List Int)) :=
  if (decide (x3.2 < (a0.length : Int))) = true then
    (idxO a0 x3.2).bind fun v6 =>
    (idxO x3.1 x3.2).bind fun v7 =>
    some (.inl ((x3.1.set (Int.toNat x3.2) v6), (w64 (x3.2 + 1))))
  else
    some (.inr x3.1)
noncomputable def laws_toIntS (a0 : (List Int)) : Option (List Int) :=
  (guardO (0 ≤ (a0.length : Int) ∧ (a0.length : Int) ≤ 1099511627776)).bind fun u1 =>
  (loopO (laws_toIntS_b1 a0) ((List.replicate (Int.toNat (a0.length : Int)) (0 : Int)), 0)).bind fun y4 => laws_toIntS_k1 y4
noncomputable def spec_l1In (a0 : Int) (a1 : Int) (a2 : Int) : Option Bool :=
  some ((decide (a0 ≥ a1)) && (decide (a0 ≤ a2)))
noncomputable def spec_l1All_k1  (x1 : Unit) : Option Bool :=
  some true
noncomputable def spec_l1All_b1 (a0 : (List Int)) (a1 : Int) (a2 : Int) (x2 : Int) : Option (Int ⊕ (Bool ⊕ Unit)) :=
  if (decide (x2 < (a0.length : Int))) = true then
    (idxO a0 x2).bind fun v5 =>
    (spec_l1In v5 a1 a2).bind fun v6 =>
    if (!v6) = true then
      some (.inr (.inl false))
    else
      some (.inl (w64 (x2 + 1)))
  else
    some (.inr (.inr ()))
noncomputable def spec_l1All (a0 : (List Int)) (a1 : Int) (a2 : Int) : Option Bool :=
  (loopO (spec_l1All_b1 a0 a1 a2) 0).bind fun y3 => (Sum.elim (fun p => some p) (fun p => spec_l1All_k1 p)) y3
noncomputable def spec_gwVector (a0 : (List Int)) : Option Bool :=
  (spec_l1In (a0.length : Int) 1 8).bind fun v1 =>
  (if v1 = true then
      (spec_l1All a0 1 1000000).bind fun v2 =>
      some v2
    else
      some false).bind fun w3 =>
  some w3
noncomputable def spec_IsVector (a0 : (List Int)) : Option Bool :=
  (spec_gwVector a0).bind fun v1 =>
  some v1
noncomputable def impl_within (a0 : Int) (a1 : Int) (a2 : Int) : Option Bool :=
  some ((decide (a1 ≤ a0)) && (decide (a0 ≤ a2)))
noncomputable def slices_IndexFunc_Lint_int_k1  (x1 : Unit) : Option Int :=
  some (-1)
noncomputable def slices_IndexFunc_Lint_int_b1 (a0 : (List Int)) (a1 : Int → Option Bool) (x2 : Int) : Option (Int ⊕ (Int ⊕ Unit)) :=
  if (decide (x2 < (a0.length : Int))) = true then
    (idxO a0 x2).bind fun v5 =>
    (a1 v5).bind fun v6 =>
    if v6 = true then
      some (.inr (.inl x2))
    else
      some (.inl (w64 (x2 + 1)))
  else
    some (.inr (.inr ()))
noncomputable def slices_IndexFunc_Lint_int (a0 : (List Int)) (a1 : (Int → Option Bool)) : Option Int :=
  (loopO (slices_IndexFunc_Lint_int_b1 a0 a1) 0).bind fun y3 => (Sum.elim (fun p => some p) (fun p => slices_IndexFunc_Lint_int_k1 p)) y3
noncomputable def slices_ContainsFunc_Lint_int (a0 : (List Int)) (a1 : (Int → Option Bool)) : Option Bool :=
  (slices_IndexFunc_Lint_int a0 a1).bind fun v1 =>
  some (decide (v1 ≥ 0))
noncomputable def impl_isVector_1 (a0 : Int) : Option Bool :=
  (impl_within a0 1 1000000).bind fun v1 =>
  some (!v1)
noncomputable def impl_isVector (a0 : (List Int)) : Option Bool :=
  (impl_within (a0.length : Int) 1 8).bind fun v1 =>
  (if v1 = true then
      (slices_ContainsFunc_Lint_int a0 (fun x0 => impl_isVector_1 x0)).bind fun v2 =>
      some (!v2)
    else
      some false).bind fun w3 =>
  some w3
noncomputable def impl_IsVector (a0 : (List Int)) : Option Bool :=
  (impl_isVector a0).bind fun v1 =>
  some v1
noncomputable def laws_eqIntS_k1  (x2 : Unit) : Option Bool :=
  some true
noncomputable def laws_eqIntS_b1 (a0 : (List Int)) (a1 : (List Int)) (x3 : Int) : Option (Int ⊕ (Bool ⊕ Unit)) :=
  if (decide (x3 < (a0.length : Int))) = true then
    (idxO a0 x3).bind fun v6 =>
    (idxO a1 x3).bind fun v7 =>
    if (v6 != v7) = true then
      some (.inr (.inl false))
    else
      some (.inl (w64 (x3 + 1)))
  else
    some (.inr (.inr ()))
noncomputable def laws_eqIntS (a0 : (List Int)) (a1 : (List Int)) : Option Bool :=
  if ((a0.length : Int) != (a1.length : Int)) = true then
    some false
  else
    (loopO (laws_eqIntS_b1 a0 a1) 0).bind fun y4 => (Sum.elim (fun p => some p) (fun p => laws_eqIntS_k1 p)) y4
noncomputable def laws_FnExactIsVector (a0 : (List Int)) : Option Bool :=
  if (decide ((a0.length : Int) > 1048576)) = true then
    some true
  else
    (laws_toIntS a0).bind fun v2 =>
    (spec_IsVector v2).bind fun v3 =>
    (laws_toIntS a0).bind fun v4 =>
    (impl_IsVector v4).bind fun v5 =>
    if (!(v5 == v3)) = true then
      some false
    else
      (laws_toIntS a0).bind fun v7 =>
      (laws_eqIntS v4 v7).bind fun v8 =>
      if (!v8) = true then
        some false
      else
        some true
noncomputable def laws_toRat (a0 : (Int × Int)) : Option (Int × Int) :=
  some a0
noncomputable def spec_l1Most (a0 : Int) (a1 : Int) : Option Int :=
  if (decide (a0 > a1)) = true then
    some a0
  else
    some a1
noncomputable def spec_l1Abs (a0 : Int) : Option Int :=
  (spec_l1Most a0 (w64 (0 - a0))).bind fun v1 =>
  some v1
noncomputable def spec_raCommon_k1  (x1 : Int) : Option Int :=
  some x1
noncomputable def spec_raCommon_b1  (x2 : (Int × Int)) : Option ((Int × Int) ⊕ Int) :=
  if (decide (x2.2 > 0)) = true then
    (guardO (x2.2 ≠ 0)).bind fun u5 =>
    some (.inl (x2.2, (Int.tmod x2.1 x2.2)))
  else
    some (.inr x2.1)
noncomputable def spec_raCommon (a0 : Int) (a1 : Int) : Option Int :=
  (loopO spec_raCommon_b1 (a0, a1)).bind fun y3 => spec_raCommon_k1 y3
noncomputable def spec_raGood (a0 : (Int × Int)) : Option Bool :=
  (spec_l1In a0.2 1 1000000000).bind fun v1 =>
  (if v1 = true then
      (spec_l1In a0.1 (-1000000000) 1000000000).bind fun v2 =>
      if v2 = true then
        (spec_l1Abs a0.1).bind fun v3 =>
        (spec_raCommon v3 a0.2).bind fun v4 =>
        some (v4 == 1)
      else
        some false
    else
      some false).bind fun w5 =>
  some w5
noncomputable def spec_liNear (a0 : (Int × Int)) : Option Bool :=
  (spec_raGood a0).bind fun v1 =>
  (if v1 = true then
      (spec_l1In a0.1 (w64 ((-1000) * a0.2)) (w64 (1000 * a0.2))).bind fun v2 =>
      some v2
    else
      some false).bind fun w3 =>
  some w3
noncomputable def spec_raDown (a0 : Int) (a1 : Int) : Option Int :=
  if (a1 == 0) = true then
    some 0
  else
    (guardO (a1 ≠ 0)).bind fun u2 =>
    if (decide ((Int.tmod a0 a1) < 0)) = true then
      some (w64 ((w64 (Int.tdiv a0 a1)) - 1))
    else
      some (w64 (Int.tdiv a0 a1))
noncomputable def spec_raFloor (a0 : (Int × Int)) : Option Int :=
  (spec_raDown a0.1 a0.2).bind fun v1 =>
  some v1
noncomputable def spec_liPlus (a0 : (Int × Int)) (a1 : Int) : Option (Int × Int) :=
  some ((w64 (a0.1 + (w64 (a1 * a0.2)))), a0.2)
noncomputable def spec_ReduceRat (a0 : (Int × Int)) : Option ((Int × Int) × Bool) :=
  (spec_liNear a0).bind fun v1 =>
  if (!v1) = true then
    some ((0, 0), false)
  else
    (spec_raFloor a0).bind fun v3 =>
    (spec_liPlus a0 (w64 (0 - v3))).bind fun v4 =>
    some (v4, true)
noncomputable def impl_abs (a0 : Int) : Option Int :=
  if (decide (a0 < 0)) = true then
    some (w64 (0 - a0))
  else
    some a0
noncomputable def impl_greatestDivisor_k1  (x3 : Int) : Option Int :=
  some x3
noncomputable def impl_greatestDivisor_b1  (x4 : (Int × Int)) : Option ((Int × Int) ⊕ Int) :=
  if (x4.2 != 0) = true then
    (guardO (x4.2 ≠ 0)).bind fun u7 =>
    some (.inl (x4.2, (Int.tmod x4.1 x4.2)))
  else
    some (.inr x4.1)
noncomputable def impl_greatestDivisor (a0 : Int) (a1 : Int) : Option Int :=
  (impl_abs a0).bind fun v1 =>
  (impl_abs a1).bind fun v2 =>
  (loopO impl_greatestDivisor_b1 (v1, v2)).bind fun y5 => impl_greatestDivisor_k1 y5
noncomputable def impl_isRat (a0 : (Int × Int)) : Option Bool :=
  (impl_within a0.2 1 1000000000).bind fun v1 =>
  (if v1 = true then
      (impl_within a0.1 (-1000000000) 1000000000).bind fun v2 =>
      if v2 = true then
        (impl_greatestDivisor a0.1 a0.2).bind fun v3 =>
        some (v3 == 1)
      else
        some false
    else
      some false).bind fun w4 =>
  some w4
noncomputable def impl_whole (a0 : Int) : Option (Int × Int) :=
  some (a0, 1)
noncomputable def impl_compare (a0 : (Int × Int)) (a1 : (Int × Int)) : Option Int :=
  if (decide ((w64 (a0.1 * a1.2)) < (w64 (a1.1 * a0.2)))) = true then
    some (-1)
  else
    if (decide ((w64 (a0.1 * a1.2)) > (w64 (a1.1 * a0.2)))) = true then
      some 1
    else
      some 0
noncomputable def impl_less (a0 : (Int × Int)) (a1 : (Int × Int)) : Option Bool :=
  (impl_compare a0 a1).bind fun v1 =>
  some (decide (v1 < 0))
noncomputable def impl_isFar (a0 : (Int × Int)) : Option Bool :=
  (impl_isRat a0).bind fun v1 =>
  (if v1 = true then
      (impl_whole (-1000)).bind fun v2 =>
      (impl_less a0 v2).bind fun v3 =>
      if (!v3) = true then
        (impl_whole 1000).bind fun v4 =>
        (impl_less v4 a0).bind fun v5 =>
        some (!v5)
      else
        some false
    else
      some false).bind fun w6 =>
  some w6
noncomputable def impl_floorDivide (a0 : Int) (a1 : Int) : Option Int :=
  (guardO (a1 ≠ 0)).bind fun u1 =>
  if (decide ((Int.tmod a0 a1) < 0)) = true then
    some (w64 ((w64 (Int.tdiv a0 a1)) - 1))
  else
    some (w64 (Int.tdiv a0 a1))
noncomputable def impl_floor (a0 : (Int × Int)) : Option Int :=
  (impl_floorDivide a0.1 a0.2).bind fun v1 =>
  some v1
noncomputable def impl_negated (a0 : (Int × Int)) : Option (Int × Int) :=
  some ((w64 (0 - a0.1)), a0.2)
noncomputable def impl_areRats_k1  (x1 : Unit) : Option Bool :=
  some true
noncomputable def impl_areRats_b1 (a0 : (List (Int × Int))) (x2 : Int) : Option (Int ⊕ (Bool ⊕ Unit)) :=
  if (decide (x2 < (a0.length : Int))) = true then
    (idxO a0 x2).bind fun v5 =>
    (impl_isRat v5).bind fun v6 =>
    if (!v6) = true then
      some (.inr (.inl false))
    else
      some (.inl (w64 (x2 + 1)))
  else
    some (.inr (.inr ()))
noncomputable def impl_areRats (a0 : (List (Int × Int))) : Option Bool :=
  (loopO (impl_areRats_b1 a0) 0).bind fun y3 => (Sum.elim (fun p => some p) (fun p => impl_areRats_k1 p)) y3
noncomputable def impl_lowest_k1 (a0 : Int) (a1 : Int) (x2 : Int) : Option ((Int × Int) × Bool) :=
  (guardO (x2 ≠ 0)).bind fun u3 =>
  (impl_isRat ((w64 (Int.tdiv a0 x2)), (w64 (Int.tdiv a1 x2)))).bind fun v4 =>
  if (!v4) = true then
    some ((0, 0), false)
  else
    some (((w64 (Int.tdiv a0 x2)), (w64 (Int.tdiv a1 x2))), true)
noncomputable def impl_lowest (a0 : Int) (a1 : Int) : Option ((Int × Int) × Bool) :=
  (impl_greatestDivisor a0 a1).bind fun v1 =>
  if (decide (a1 < 0)) = true then
    impl_lowest_k1 a0 a1 (w64 (0 - v1))
  else
    impl_lowest_k1 a0 a1 v1
noncomputable def impl_AddRats (a0 : (Int × Int)) (a1 : (Int × Int)) : Option ((Int × Int) × Bool) :=
  (impl_areRats ([a0, a1])).bind fun v1 =>
  if (!v1) = true then
    some ((0, 0), false)
  else
    (impl_lowest (w64 ((w64 (a0.1 * a1.2)) + (w64 (a1.1 * a0.2)))) (w64 (a0.2 * a1.2))).bind fun v3 =>
    some v3
noncomputable def impl_SubtractRats (a0 : (Int × Int)) (a1 : (Int × Int)) : Option ((Int × Int) × Bool) :=
  (impl_negated a1).bind fun v1 =>
  (impl_AddRats a0 v1).bind fun v2 =>
  some v2
noncomputable def impl_ReduceRat (a0 : (Int × Int)) : Option ((Int × Int) × Bool) :=
  (impl_isFar a0).bind fun v1 =>
  if (!v1) = true then
    some ((0, 0), false)
  else
    (impl_floor a0).bind fun v3 =>
    (impl_whole v3).bind fun v4 =>
    (impl_SubtractRats a0 v4).bind fun v5 =>
    some v5
noncomputable def laws_eqRat (a0 : (Int × Int)) (a1 : (Int × Int)) : Option Bool :=
  if (a0.1 != a1.1) = true then
    some false
  else
    if (a0.2 != a1.2) = true then
      some false
    else
      some true
noncomputable def laws_FnExactReduceRat (a0 : (Int × Int)) : Option Bool :=
  (laws_toRat a0).bind fun v1 =>
  (spec_ReduceRat v1).bind fun v2 =>
  (laws_toRat a0).bind fun v3 =>
  (impl_ReduceRat v3).bind fun v4 =>
  (laws_eqRat v4.1 v2.1).bind fun v5 =>
  if ((!v5) || (!(v4.2 == v2.2))) = true then
    some false
  else
    some true
noncomputable def laws_szIntS (a0 : (List Int)) (a1 : Int) : Option Int :=
  if (decide ((w64 (a1 - (a0.length : Int))) < 0)) = true then
    some (-1)
  else
    some (w64 (a1 - (a0.length : Int)))
noncomputable def laws_szIntSS_k1  (x2 : Int) : Option Int :=
  some x2
noncomputable def laws_szIntSS_b1 (a0 : (List (List Int))) (x3 : (Int × Int)) : Option ((Int × Int) ⊕ (Int ⊕ Int)) :=
  if (decide (x3.2 < (a0.length : Int))) = true then
    (idxO a0 x3.2).bind fun v6 =>
    (laws_szIntS v6 x3.1).bind fun v7 =>
    if (decide (v7 < 0)) = true then
      some (.inr (.inl (-1)))
    else
      some (.inl (v7, (w64 (x3.2 + 1))))
  else
    some (.inr (.inr x3.1))
noncomputable def laws_szIntSS (a0 : (List (List Int))) (a1 : Int) : Option Int :=
  if (decide ((w64 (a1 - (a0.length : Int))) < 0)) = true then
    some (-1)
  else
    (loopO (laws_szIntSS_b1 a0) ((w64 (a1 - (a0.length : Int))), 0)).bind fun y4 => (Sum.elim (fun p => some p) (fun p => laws_szIntSS_k1 p)) y4
noncomputable def laws_toIntSS_k1  (x2 : (List (List Int))) : Option (List (List Int)) :=
  some x2
noncomputable def laws_toIntSS_b1 (a0 : (List (List Int))) (x3 : ((List (List Int)) × Int)) : Option (((List (List Int)) × Int) ⊕ (List (List Int))) :=
  if (decide (x3.2 < (a0.length : Int))) = true then
    (idxO a0 x3.2).bind fun v6 =>
    (laws_toIntS v6).bind fun v7 =>
    (idxO x3.1 x3.2).bind fun v8 =>
    some (.inl ((x3.1.set (Int.toNat x3.2) v7), (w64 (x3.2 + 1))))
  else
    some (.inr x3.1)
noncomputable def laws_toIntSS (a0 : (List (List Int))) : Option (List (List Int)) :=
  (guardO (0 ≤ (a0.length : Int) ∧ (a0.length : Int) ≤ 1099511627776)).bind fun u1 =>
  (loopO (laws_toIntSS_b1 a0) ((List.replicate (Int.toNat (a0.length : Int)) ([] : (List Int))), 0)).bind fun y4 => laws_toIntSS_k1 y4
noncomputable def spec_grGood_k1  (x3 : Unit) : Option Bool :=
  some true
noncomputable def spec_grGood_b1 (a0 : (List (List Int))) (x4 : Int) : Option (Int ⊕ (Bool ⊕ Unit)) :=
  if (decide (x4 < (a0.length : Int))) = true then
    (idxO a0 x4).bind fun v7 =>
    (if ((v7.length : Int) != (a0.length : Int)) = true then
        some true
      else
        (spec_l1All v7 0 9).bind fun v8 =>
        some (!v8)).bind fun w9 =>
    if w9 = true then
      some (.inr (.inl false))
    else
      some (.inl (w64 (x4 + 1)))
  else
    some (.inr (.inr ()))
noncomputable def spec_grGood (a0 : (List (List Int))) : Option Bool :=
  (spec_l1In (a0.length : Int) 1 8).bind fun v1 =>
  if (!v1) = true then
    some false
  else
    (loopO (spec_grGood_b1 a0) 0).bind fun y5 => (Sum.elim (fun p => some p) (fun p => spec_grGood_k1 p)) y5
noncomputable def spec_gwAsked (a0 : (List (List Int))) (a1 : (List Int)) : Option Bool :=
  (spec_grGood a0).bind fun v1 =>
  (if v1 = true then
      (spec_gwVector a1).bind fun v2 =>
      if v2 = true then
        some ((a1.length : Int) == (a0.length : Int))
      else
        some false
    else
      some false).bind fun w3 =>
  some w3
noncomputable def spec_gwTimes_k1  (x1 : (List Int)) : Option (List Int) :=
  some x1
noncomputable def spec_gwTimes_k2 (x2 : ((List Int) × Int)) (x5 : (List Int)) : Option (((List Int) × Int) ⊕ (List Int)) :=
  some (.inl (x5, (w64 (x2.2 + 1))))
noncomputable def spec_gwTimes_k3 (x2 : ((List Int) × Int)) (x7 : Int) : Option (((List Int) × Int) ⊕ (List Int)) :=
  (guardO (x2.1.length + ([x7]).length ≤ 1099511627776)).bind fun u8 =>
  spec_gwTimes_k2 x2 (x2.1 ++ [x7])
noncomputable def spec_gwTimes_b2 (a1 : (List Int)) (v6 : (List Int)) (x9 : (Int × Int)) : Option ((Int × Int) ⊕ Int) :=
  if (decide (x9.2 < (v6.length : Int))) = true then
    (idxO v6 x9.2).bind fun v12 =>
    (idxO a1 x9.2).bind fun v13 =>
    some (.inl ((w64 (x9.1 + (w64 (v12 * v13)))), (w64 (x9.2 + 1))))
  else
    some (.inr x9.1)
noncomputable def spec_gwTimes_b1 (a0 : (List (List Int))) (a1 : (List Int)) (x2 : ((List Int) × Int)) : Option (((List Int) × Int) ⊕ (List Int)) :=
  if (decide (x2.2 < (a0.length : Int))) = true then
    (idxO a0 x2.2).bind fun v6 =>
    (loopO (spec_gwTimes_b2 a1 v6) (0, 0)).bind fun y10 => spec_gwTimes_k3 x2 y10
  else
    some (.inr x2.1)
noncomputable def spec_gwTimes (a0 : (List (List Int))) (a1 : (List Int)) : Option (List Int) :=
  (loopO (spec_gwTimes_b1 a0 a1) ([], 0)).bind fun y3 => spec_gwTimes_k1 y3
noncomputable def slices_IndexFunc_LLint_Lint_k1  (x1 : Unit) : Option Int :=
  some (-1)
noncomputable def slices_IndexFunc_LLint_Lint_b1 (a0 : (List (List Int))) (a1 : (List Int) → Option Bool) (x2 : Int) : Option (Int ⊕ (Int ⊕ Unit)) :=
  if (decide (x2 < (a0.length : Int))) = true then
    (idxO a0 x2).bind fun v5 =>
    (a1 v5).bind fun v6 =>
    if v6 = true then
      some (.inr (.inl x2))
    else
      some (.inl (w64 (x2 + 1)))
  else
    some (.inr (.inr ()))
noncomputable def slices_IndexFunc_LLint_Lint (a0 : (List (List Int))) (a1 : ((List Int) → Option Bool)) : Option Int :=
  (loopO (slices_IndexFunc_LLint_Lint_b1 a0 a1) 0).bind fun y3 => (Sum.elim (fun p => some p) (fun p => slices_IndexFunc_LLint_Lint_k1 p)) y3
noncomputable def slices_ContainsFunc_LLint_Lint (a0 : (List (List Int))) (a1 : ((List Int) → Option Bool)) : Option Bool :=
  (slices_IndexFunc_LLint_Lint a0 a1).bind fun v1 =>
  some (decide (v1 ≥ 0))
noncomputable def impl_isGraph_1_1 (a0 : Int) : Option Bool :=
  (impl_within a0 0 9).bind fun v1 =>
  some (!v1)
noncomputable def impl_isGraph_1 (a0 : (List Int)) (c0 : (List (List Int))) : Option Bool :=
  (if ((a0.length : Int) != (c0.length : Int)) = true then
      some true
    else
      (slices_ContainsFunc_Lint_int a0 (fun x0 => impl_isGraph_1_1 x0)).bind fun v1 =>
      some v1).bind fun w2 =>
  some w2
noncomputable def impl_isGraph (a0 : (List (List Int))) : Option Bool :=
  (impl_within (a0.length : Int) 1 8).bind fun v1 =>
  (if v1 = true then
      (slices_ContainsFunc_LLint_Lint a0 (fun x0 => impl_isGraph_1 x0 a0)).bind fun v2 =>
      some (!v2)
    else
      some false).bind fun w3 =>
  some w3
noncomputable def impl_isVectorOf (a0 : (List (List Int))) (a1 : (List Int)) : Option Bool :=
  (impl_isGraph a0).bind fun v1 =>
  (if v1 = true then
      (impl_isVector a1).bind fun v2 =>
      if v2 = true then
        some ((a0.length : Int) == (a1.length : Int))
      else
        some false
    else
      some false).bind fun w3 =>
  some w3
noncomputable def impl_times_k1  (x2 : (List Int)) : Option (List Int) :=
  some x2
noncomputable def impl_times_k2 (x3 : ((List Int) × Int)) (x6 : (List Int)) : Option (((List Int) × Int) ⊕ (List Int)) :=
  some (.inl (x6, (w64 (x3.2 + 1))))
noncomputable def impl_times_b2 (a1 : (List Int)) (x3 : ((List Int) × Int)) (v7 : (List Int)) (x8 : ((List Int) × Int)) : Option (((List Int) × Int) ⊕ (List Int)) :=
  if (decide (x8.2 < (v7.length : Int))) = true then
    (idxO v7 x8.2).bind fun v11 =>
    (idxO x8.1 x3.2).bind fun v12 =>
    (idxO a1 x8.2).bind fun v13 =>
    some (.inl ((x8.1.set (Int.toNat x3.2) (w64 (v12 + (w64 (v11 * v13))))), (w64 (x8.2 + 1))))
  else
    some (.inr x8.1)
noncomputable def impl_times_b1 (a0 : (List (List Int))) (a1 : (List Int)) (x3 : ((List Int) × Int)) : Option (((List Int) × Int) ⊕ (List Int)) :=
  if (decide (x3.2 < (a0.length : Int))) = true then
    (idxO a0 x3.2).bind fun v7 =>
    (loopO (impl_times_b2 a1 x3 v7) (x3.1, 0)).bind fun y9 => impl_times_k2 x3 y9
  else
    some (.inr x3.1)
noncomputable def impl_times (a0 : (List (List Int))) (a1 : (List Int)) : Option (List Int) :=
  (guardO (0 ≤ (a0.length : Int) ∧ (a0.length : Int) ≤ 1099511627776)).bind fun u1 =>
  (loopO (impl_times_b1 a0 a1) ((List.replicate (Int.toNat (a0.length : Int)) (0 : Int)), 0)).bind fun y4 => impl_times_k1 y4
noncomputable def laws_eqIntSS_k1  (x2 : Unit) : Option Bool :=
  some true
noncomputable def laws_eqIntSS_b1 (a0 : (List (List Int))) (a1 : (List (List Int))) (x3 : Int) : Option (Int ⊕ (Bool ⊕ Unit)) :=
  if (decide (x3 < (a0.length : Int))) = true then
    (idxO a0 x3).bind fun v6 =>
    (idxO a1 x3).bind fun v7 =>
    (laws_eqIntS v6 v7).bind fun v8 =>
    if (!v8) = true then
      some (.inr (.inl false))
    else
      some (.inl (w64 (x3 + 1)))
  else
    some (.inr (.inr ()))
noncomputable def laws_eqIntSS (a0 : (List (List Int))) (a1 : (List (List Int))) : Option Bool :=
  if ((a0.length : Int) != (a1.length : Int)) = true then
    some false
  else
    (loopO (laws_eqIntSS_b1 a0 a1) 0).bind fun y4 => (Sum.elim (fun p => some p) (fun p => laws_eqIntSS_k1 p)) y4
noncomputable def laws_markIntS_k1  (x1 : ((List Int) × Int)) : Option (Int × (List Int)) :=
  some (x1.2, x1.1)
noncomputable def laws_markIntS_b1  (x2 : ((List Int) × Int × Int)) : Option (((List Int) × Int × Int) ⊕ ((List Int) × Int)) :=
  if (decide (x2.2.2 < (x2.1.length : Int))) = true then
    (idxO x2.1 x2.2.2).bind fun v5 =>
    some (.inl ((x2.1.set (Int.toNat x2.2.2) x2.2.1), (w64 (x2.2.1 + 1)), (w64 (x2.2.2 + 1))))
  else
    some (.inr (x2.1, x2.2.1))
noncomputable def laws_markIntS (a0 : (List Int)) (a1 : Int) : Option (Int × (List Int)) :=
  (loopO laws_markIntS_b1 (a0, a1, 0)).bind fun y3 => laws_markIntS_k1 y3
noncomputable def laws_markIntSS_k1  (x1 : ((List (List Int)) × Int)) : Option (Int × (List (List Int))) :=
  some (x1.2, x1.1)
noncomputable def laws_markIntSS_b1  (x2 : ((List (List Int)) × Int × Int)) : Option (((List (List Int)) × Int × Int) ⊕ ((List (List Int)) × Int)) :=
  if (decide (x2.2.2 < (x2.1.length : Int))) = true then
    (idxO x2.1 x2.2.2).bind fun v5 =>
    (laws_markIntS v5 x2.2.1).bind fun v6 =>
    some (.inl ((x2.1.set (Int.toNat x2.2.2) v6.2), v6.1, (w64 (x2.2.2 + 1))))
  else
    some (.inr (x2.1, x2.2.1))
noncomputable def laws_markIntSS (a0 : (List (List Int))) (a1 : Int) : Option (Int × (List (List Int))) :=
  (loopO laws_markIntSS_b1 (a0, a1, 0)).bind fun y3 => laws_markIntSS_k1 y3
noncomputable def laws_heldIntS_k1  (x1 : Int) : Option Int :=
  some x1
noncomputable def laws_heldIntS_b1 (a0 : (List Int)) (x2 : (Int × Int)) : Option ((Int × Int) ⊕ (Int ⊕ Int)) :=
  if (decide (x2.2 < (a0.length : Int))) = true then
    (idxO a0 x2.2).bind fun v5 =>
    if (v5 != x2.1) = true then
      some (.inr (.inl (-1)))
    else
      some (.inl ((w64 (x2.1 + 1)), (w64 (x2.2 + 1))))
  else
    some (.inr (.inr x2.1))
noncomputable def laws_heldIntS (a0 : (List Int)) (a1 : Int) : Option Int :=
  (loopO (laws_heldIntS_b1 a0) (a1, 0)).bind fun y3 => (Sum.elim (fun p => some p) (fun p => laws_heldIntS_k1 p)) y3
noncomputable def spec_grSteps (a0 : Int) : Option Bool :=
  (spec_l1In a0 0 12).bind fun v1 =>
  some v1
noncomputable def spec_l1Least (a0 : Int) (a1 : Int) : Option Int :=
  if (decide (a0 < a1)) = true then
    some a0
  else
    some a1
noncomputable def spec_grCap (a0 : Int) : Option Int :=
  (spec_l1Least a0 1000000001).bind fun v1 =>
  some v1
noncomputable def spec_grPower_k2  (x2 : (List (List Int))) : Option (List (List Int)) :=
  some x2
noncomputable def spec_grPower_k3 (x3 : (Int × (List (List Int)))) (x6 : (List (List Int))) : Option ((Int × (List (List Int))) ⊕ (List (List Int))) :=
  some (.inl ((w64 (x3.1 - 1)), x6))
noncomputable def spec_grPower_k4 (x3 : (Int × (List (List Int)))) (x7 : (List (List Int))) : Option ((Int × (List (List Int))) ⊕ (List (List Int))) :=
  spec_grPower_k3 x3 x7
noncomputable def spec_grPower_k5 (x8 : ((List (List Int)) × Int)) (x11 : (List (List Int))) : Option (((List (List Int)) × Int) ⊕ (List (List Int))) :=
  some (.inl (x11, (w64 (x8.2 + 1))))
noncomputable def spec_grPower_k6 (x8 : ((List (List Int)) × Int)) (x13 : (List Int)) : Option (((List (List Int)) × Int) ⊕ (List (List Int))) :=
  (guardO (x8.1.length + ([x13]).length ≤ 1099511627776)).bind fun u14 =>
  spec_grPower_k5 x8 (x8.1 ++ [x13])
noncomputable def spec_grPower_k7 (x15 : ((List Int) × Int)) (x18 : (List Int)) : Option (((List Int) × Int) ⊕ (List Int)) :=
  some (.inl (x18, (w64 (x15.2 + 1))))
noncomputable def spec_grPower_b4 (a0 : (List (List Int))) (x3 : (Int × (List (List Int)))) (x8 : ((List (List Int)) × Int)) (x15 : ((List Int) × Int)) (x19 : ((List Int) × Int)) : Option (((List Int) × Int) ⊕ (List Int)) :=
  if (decide (x19.2 < (a0.length : Int))) = true then
    (idxO x19.1 x15.2).bind fun v22 =>
    (idxO x3.2 x8.2).bind fun v23 =>
    (idxO v23 x19.2).bind fun v24 =>
    (idxO a0 x19.2).bind fun v25 =>
    (idxO v25 x15.2).bind fun v26 =>
    (spec_grCap (w64 (v22 + (w64 (v24 * v26))))).bind fun v27 =>
    some (.inl ((x19.1.set (Int.toNat x15.2) v27), (w64 (x19.2 + 1))))
  else
    some (.inr x19.1)
noncomputable def spec_grPower_b3 (a0 : (List (List Int))) (x3 : (Int × (List (List Int)))) (x8 : ((List (List Int)) × Int)) (x15 : ((List Int) × Int)) : Option (((List Int) × Int) ⊕ (List Int)) :=
  if (decide (x15.2 < (a0.length : Int))) = true then
    (loopO (spec_grPower_b4 a0 x3 x8 x15) (x15.1, 0)).bind fun y20 => spec_grPower_k7 x15 y20
  else
    some (.inr x15.1)
noncomputable def spec_grPower_b2 (a0 : (List (List Int))) (x3 : (Int × (List (List Int)))) (x8 : ((List (List Int)) × Int)) : Option (((List (List Int)) × Int) ⊕ (List (List Int))) :=
  if (decide (x8.2 < (a0.length : Int))) = true then
    (guardO (0 ≤ (a0.length : Int) ∧ (a0.length : Int) ≤ 1099511627776)).bind fun u12 =>
    (loopO (spec_grPower_b3 a0 x3 x8) ((List.replicate (Int.toNat (a0.length : Int)) (0 : Int)), 0)).bind fun y16 => spec_grPower_k6 x8 y16
  else
    some (.inr x8.1)
noncomputable def spec_grPower_b1 (a0 : (List (List Int))) (x3 : (Int × (List (List Int)))) : Option ((Int × (List (List Int))) ⊕ (List (List Int))) :=
  if (decide (x3.1 > 0)) = true then
    (loopO (spec_grPower_b2 a0 x3) ([], 0)).bind fun y9 => spec_grPower_k4 x3 y9
  else
    some (.inr x3.2)
noncomputable def spec_grPower_k1 (a0 : (List (List Int))) (a1 : Int) (x1 : (List (List Int))) : Option (List (List Int)) :=
  (loopO (spec_grPower_b1 a0) (a1, x1)).bind fun y4 => spec_grPower_k2 y4
noncomputable def spec_grPower_b5 (a0 : (List (List Int))) (x28 : ((List (List Int)) × Int)) : Option (((List (List Int)) × Int) ⊕ (List (List Int))) :=
  if (decide (x28.2 < (a0.length : Int))) = true then
    (guardO (0 ≤ (a0.length : Int) ∧ (a0.length : Int) ≤ 1099511627776)).bind fun u31 =>
    (guardO (x28.1.length + ([(List.replicate (Int.toNat (a0.length : Int)) (0 : Int))]).length ≤ 1099511627776)).bind fun u32 =>
    (idxO (x28.1 ++ [(List.replicate (Int.toNat (a0.length : Int)) (0 : Int))]) x28.2).bind fun v33 =>
    (idxO v33 x28.2).bind fun v34 =>
    some (.inl (((x28.1 ++ [(List.replicate (Int.toNat (a0.length : Int)) (0 : Int))]).set (Int.toNat x28.2) (v33.set (Int.toNat x28.2) 1)), (w64 (x28.2 + 1))))
  else
    some (.inr x28.1)
noncomputable def spec_grPower (a0 : (List (List Int))) (a1 : Int) : Option (List (List Int)) :=
  (loopO (spec_grPower_b5 a0) ([], 0)).bind fun y29 => spec_grPower_k1 a0 a1 y29
noncomputable def spec_gwTotal_k1  (x1 : Int) : Option Int :=
  some x1
noncomputable def spec_gwTotal_k2 (x3 : (Int × Int)) (x6 : Int) : Option ((Int × Int) ⊕ Int) :=
  some (.inl (x6, (w64 (x3.2 + 1))))
noncomputable def spec_gwTotal_b2 (v7 : (List Int)) (x8 : (Int × Int)) : Option ((Int × Int) ⊕ Int) :=
  if (decide (x8.2 < (v7.length : Int))) = true then
    (idxO v7 x8.2).bind fun v11 =>
    (spec_grCap (w64 (x8.1 + v11))).bind fun v12 =>
    some (.inl (v12, (w64 (x8.2 + 1))))
  else
    some (.inr x8.1)
noncomputable def spec_gwTotal_b1 (v2 : (List (List Int))) (x3 : (Int × Int)) : Option ((Int × Int) ⊕ Int) :=
  if (decide (x3.2 < (v2.length : Int))) = true then
    (idxO v2 x3.2).bind fun v7 =>
    (loopO (spec_gwTotal_b2 v7) (x3.1, 0)).bind fun y9 => spec_gwTotal_k2 x3 y9
  else
    some (.inr x3.1)
noncomputable def spec_gwTotal (a0 : (List (List Int))) (a1 : Int) : Option Int :=
  (spec_grPower a0 a1).bind fun v2 =>
  (loopO (spec_gwTotal_b1 v2) (0, 0)).bind fun y4 => spec_gwTotal_k1 y4
noncomputable def spec_TotalWalks (a0 : (List (List Int))) (a1 : Int) : Option (Int × Bool) :=
  (spec_grGood a0).bind fun v1 =>
  (if (!v1) = true then
      some true
    else
      (spec_grSteps a1).bind fun v2 =>
      if (!v2) = true then
        some true
      else
        (spec_gwTotal a0 a1).bind fun v3 =>
        some (decide (v3 > 1000000000))).bind fun w4 =>
  if w4 = true then
    some (0, false)
  else
    (spec_gwTotal a0 a1).bind fun v6 =>
    some (v6, true)
noncomputable def impl_isWalk (a0 : (List (List Int))) (a1 : Int) : Option Bool :=
  (impl_isGraph a0).bind fun v1 =>
  (if v1 = true then
      (impl_within a1 0 12).bind fun v2 =>
      some v2
    else
      some false).bind fun w3 =>
  some w3
noncomputable def impl_emptyGraph_k1  (x2 : (List (List Int))) : Option (List (List Int)) :=
  some x2
noncomputable def impl_emptyGraph_b1 (a0 : Int) (x3 : ((List (List Int)) × Int)) : Option (((List (List Int)) × Int) ⊕ (List (List Int))) :=
  if (decide (x3.2 < ((List.replicate (Int.toNat a0) ([] : (List Int))).length : Int))) = true then
    (idxO x3.1 x3.2).bind fun v6 =>
    some (.inl ((x3.1.set (Int.toNat x3.2) (List.replicate (Int.toNat a0) (0 : Int))), (w64 (x3.2 + 1))))
  else
    some (.inr x3.1)
noncomputable def impl_emptyGraph (a0 : Int) : Option (List (List Int)) :=
  (guardO (0 ≤ a0 ∧ a0 ≤ 1099511627776)).bind fun u1 =>
  (loopO (impl_emptyGraph_b1 a0) ((List.replicate (Int.toNat a0) ([] : (List Int))), 0)).bind fun y4 => impl_emptyGraph_k1 y4
noncomputable def impl_powerUpTo_k2  (x3 : (List (List Int))) : Option (List (List Int)) :=
  some x3
noncomputable def impl_powerUpTo_k3 (x4 : ((List (List Int)) × Int)) (x7 : (List (List Int))) : Option (((List (List Int)) × Int) ⊕ (List (List Int))) :=
  some (.inl (x7, (w64 (x4.2 + 1))))
noncomputable def impl_powerUpTo_k4 (x4 : ((List (List Int)) × Int)) (x9 : (List (List Int))) : Option (((List (List Int)) × Int) ⊕ (List (List Int))) :=
  impl_powerUpTo_k3 x4 x9
noncomputable def impl_powerUpTo_k5 (x10 : ((List (List Int)) × Int)) (x13 : (List (List Int))) : Option (((List (List Int)) × Int) ⊕ (List (List Int))) :=
  some (.inl (x13, (w64 (x10.2 + 1))))
noncomputable def impl_powerUpTo_k6 (x15 : ((List (List Int)) × Int)) (x18 : (List (List Int))) : Option (((List (List Int)) × Int) ⊕ (List (List Int))) :=
  some (.inl (x18, (w64 (x15.2 + 1))))
noncomputable def impl_powerUpTo_b4 (a2 : Int) (x10 : ((List (List Int)) × Int)) (v19 : Int) (v20 : (List Int)) (x21 : ((List (List Int)) × Int)) : Option (((List (List Int)) × Int) ⊕ (List (List Int))) :=
  if (decide (x21.2 < (v20.length : Int))) = true then
    (idxO v20 x21.2).bind fun v24 =>
    (idxO x21.1 x10.2).bind fun v25 =>
    (idxO v25 x21.2).bind fun v26 =>
    some (.inl ((x21.1.set (Int.toNat x10.2) (v25.set (Int.toNat x21.2) (if a2 < (w64 (v26 + (w64 (v19 * v24)))) then a2 else (w64 (v26 + (w64 (v19 * v24))))))), (w64 (x21.2 + 1))))
  else
    some (.inr x21.1)
noncomputable def impl_powerUpTo_b3 (a0 : (List (List Int))) (a2 : Int) (x10 : ((List (List Int)) × Int)) (v14 : (List Int)) (x15 : ((List (List Int)) × Int)) : Option (((List (List Int)) × Int) ⊕ (List (List Int))) :=
  if (decide (x15.2 < (v14.length : Int))) = true then
    (idxO v14 x15.2).bind fun v19 =>
    (idxO a0 x15.2).bind fun v20 =>
    (loopO (impl_powerUpTo_b4 a2 x10 v19 v20) (x15.1, 0)).bind fun y22 => impl_powerUpTo_k6 x15 y22
  else
    some (.inr x15.1)
noncomputable def impl_powerUpTo_b2 (a0 : (List (List Int))) (a2 : Int) (x4 : ((List (List Int)) × Int)) (x10 : ((List (List Int)) × Int)) : Option (((List (List Int)) × Int) ⊕ (List (List Int))) :=
  if (decide (x10.2 < (x4.1.length : Int))) = true then
    (idxO x4.1 x10.2).bind fun v14 =>
    (loopO (impl_powerUpTo_b3 a0 a2 x10 v14) (x10.1, 0)).bind fun y16 => impl_powerUpTo_k5 x10 y16
  else
    some (.inr x10.1)
noncomputable def impl_powerUpTo_b1 (a0 : (List (List Int))) (a1 : Int) (a2 : Int) (x4 : ((List (List Int)) × Int)) : Option (((List (List Int)) × Int) ⊕ (List (List Int))) :=
  if (decide (x4.2 < a1)) = true then
    (impl_emptyGraph (a0.length : Int)).bind fun v8 =>
    (loopO (impl_powerUpTo_b2 a0 a2 x4) (v8, 0)).bind fun y11 => impl_powerUpTo_k4 x4 y11
  else
    some (.inr x4.1)
noncomputable def impl_powerUpTo_k1 (a0 : (List (List Int))) (a1 : Int) (a2 : Int) (x2 : (List (List Int))) : Option (List (List Int)) :=
  (loopO (impl_powerUpTo_b1 a0 a1 a2) (x2, 0)).bind fun y5 => impl_powerUpTo_k2 y5
noncomputable def impl_powerUpTo_b5 (v1 : (List (List Int))) (x27 : ((List (List Int)) × Int)) : Option (((List (List Int)) × Int) ⊕ (List (List Int))) :=
  if (decide (x27.2 < (v1.length : Int))) = true then
    (idxO x27.1 x27.2).bind fun v30 =>
    (idxO v30 x27.2).bind fun v31 =>
    some (.inl ((x27.1.set (Int.toNat x27.2) (v30.set (Int.toNat x27.2) 1)), (w64 (x27.2 + 1))))
  else
    some (.inr x27.1)
noncomputable def impl_powerUpTo (a0 : (List (List Int))) (a1 : Int) (a2 : Int) : Option (List (List Int)) :=
  (impl_emptyGraph (a0.length : Int)).bind fun v1 =>
  (loopO (impl_powerUpTo_b5 v1) (v1, 0)).bind fun y28 => impl_powerUpTo_k1 a0 a1 a2 y28
noncomputable def impl_power (a0 : (List (List Int))) (a1 : Int) : Option (List (List Int)) :=
  (impl_powerUpTo a0 a1 1000000001).bind fun v1 =>
  some v1
noncomputable def impl_TotalWalks_k1  (x3 : Int) : Option (Int × Bool) :=
  if (decide (x3 > 1000000000)) = true then
    some (0, false)
  else
    some (x3, true)
noncomputable def impl_TotalWalks_k2 (x6 : (Int × Int)) (x9 : Int) : Option ((Int × Int) ⊕ Int) :=
  some (.inl (x9, (w64 (x6.2 + 1))))
noncomputable def impl_TotalWalks_b2 (v10 : (List Int)) (x11 : (Int × Int)) : Option ((Int × Int) ⊕ Int) :=
  if (decide (x11.2 < (v10.length : Int))) = true then
    (idxO v10 x11.2).bind fun v14 =>
    some (.inl ((w64 (x11.1 + v14)), (w64 (x11.2 + 1))))
  else
    some (.inr x11.1)
noncomputable def impl_TotalWalks_b1 (v5 : (List (List Int))) (x6 : (Int × Int)) : Option ((Int × Int) ⊕ Int) :=
  if (decide (x6.2 < (v5.length : Int))) = true then
    (idxO v5 x6.2).bind fun v10 =>
    (loopO (impl_TotalWalks_b2 v10) (x6.1, 0)).bind fun y12 => impl_TotalWalks_k2 x6 y12
  else
    some (.inr x6.1)
noncomputable def impl_TotalWalks (a0 : (List (List Int))) (a1 : Int) : Option (Int × Bool) :=
  (impl_isWalk a0 a1).bind fun v1 =>
  if (!v1) = true then
    some (0, false)
  else
    (impl_power a0 a1).bind fun v5 =>
    (loopO (impl_TotalWalks_b1 v5) (0, 0)).bind fun y7 => impl_TotalWalks_k1 y7
noncomputable def laws_FnExactTotalWalks (a0 : (List (List Int))) (a1 : Int) : Option Bool :=
  (laws_szIntSS a0 1048576).bind fun v1 =>
  if (decide (v1 < 0)) = true then
    some true
  else
    (laws_toIntSS a0).bind fun v3 =>
    (spec_TotalWalks v3 a1).bind fun v4 =>
    (laws_toIntSS a0).bind fun v5 =>
    (impl_TotalWalks v5 a1).bind fun v6 =>
    if ((v6.1 != v4.1) || (!(v6.2 == v4.2))) = true then
      some false
    else
      (laws_toIntSS a0).bind fun v8 =>
      (laws_eqIntSS v5 v8).bind fun v9 =>
      if (!v9) = true then
        some false
      else
        some true
noncomputable def spec_RowSums_k1 (a0 : (List (List Int))) (x4 : (List Int)) : Option ((List Int) × Bool) :=
  (spec_gwTimes a0 x4).bind fun v5 =>
  some (v5, true)
noncomputable def spec_RowSums_b1 (a0 : (List (List Int))) (x6 : ((List Int) × Int)) : Option (((List Int) × Int) ⊕ (List Int)) :=
  if (decide (x6.2 < ((List.replicate (Int.toNat (a0.length : Int)) (0 : Int)).length : Int))) = true then
    (idxO x6.1 x6.2).bind fun v9 =>
    some (.inl ((x6.1.set (Int.toNat x6.2) 1), (w64 (x6.2 + 1))))
  else
    some (.inr x6.1)
noncomputable def spec_RowSums (a0 : (List (List Int))) : Option ((List Int) × Bool) :=
  (spec_grGood a0).bind fun v1 =>
  if (!v1) = true then
    some ([], false)
  else
    (guardO (0 ≤ (a0.length : Int) ∧ (a0.length : Int) ≤ 1099511627776)).bind fun u3 =>
    (loopO (spec_RowSums_b1 a0) ((List.replicate (Int.toNat (a0.length : Int)) (0 : Int)), 0)).bind fun y7 => spec_RowSums_k1 a0 y7
noncomputable def math_bits_Mul64 (a0 : Int) (a1 : Int) : Option (Int × Int) :=
  some ((IntKind.wrap .u64 ((IntKind.wrap .u64 ((IntKind.wrap .u64 ((ishr .u64 a0 32) * (ishr .u64 a1 32))) + (ishr .u64 (IntKind.wrap .u64 ((IntKind.wrap .u64 ((ishr .u64 a0 32) * (iand .u64 a1 4294967295))) + (ishr .u64 (IntKind.wrap .u64 ((iand .u64 a0 4294967295) * (iand .u64 a1 4294967295))) 32))) 32))) + (ishr .u64 (IntKind.wrap .u64 ((iand .u64 (IntKind.wrap .u64 ((IntKind.wrap .u64 ((ishr .u64 a0 32) * (iand .u64 a1 4294967295))) + (ishr .u64 (IntKind.wrap .u64 ((iand .u64 a0 4294967295) * (iand .u64 a1 4294967295))) 32))) 4294967295) + (IntKind.wrap .u64 ((iand .u64 a0 4294967295) * (ishr .u64 a1 32))))) 32))), (IntKind.wrap .u64 (a0 * a1)))
noncomputable def math_bits_Mul (a0 : Int) (a1 : Int) : Option (Int × Int) :=
  (math_bits_Mul64 a0 a1).bind fun v2 =>
  some v2
noncomputable def slices_Repeat_Lint_int_k3  (x5 : (List Int)) : Option (List Int) :=
  some x5
noncomputable def slices_Repeat_Lint_int_b1  (x6 : ((List Int) × Int)) : Option (((List Int) × Int) ⊕ (List Int)) :=
  if (decide (x6.2 < (x6.1.length : Int))) = true then
    (guardO (0 ≤ x6.2 ∧ x6.2 ≤ (x6.1.length : Int))).bind fun u9 =>
    some (.inl ((copyAt x6.1 (Int.toNat x6.2) (x6.1.take (Int.toNat x6.2))), (w64 (x6.2 + (min (Int.toNat x6.2) (x6.1.length - (Int.toNat x6.2)) : Nat)))))
  else
    some (.inr x6.1)
noncomputable def slices_Repeat_Lint_int_k2 (a0 : (List Int)) (v2 : (Int × Int)) (x3 : Unit) : Option (List Int) :=
  (guardO (0 ≤ (IntKind.wrap .i64 v2.2) ∧ (IntKind.wrap .i64 v2.2) ≤ 1099511627776)).bind fun u4 =>
  (loopO slices_Repeat_Lint_int_b1 ((copyAt (List.replicate (Int.toNat (IntKind.wrap .i64 v2.2)) (0 : Int)) 0 a0), ((min a0.length (List.replicate (Int.toNat (IntKind.wrap .i64 v2.2)) (0 : Int)).length : Nat) : Int))).bind fun y7 => slices_Repeat_Lint_int_k3 y7
noncomputable def slices_Repeat_Lint_int_k1 (a0 : (List Int)) (a1 : Int) (x1 : Unit) : Option (List Int) :=
  (math_bits_Mul (IntKind.wrap .u64 (a0.length : Int)) (IntKind.wrap .u64 a1)).bind fun v2 =>
  if ((decide (v2.1 > 0)) || (decide (v2.2 > 9223372036854775807))) = true then
    none
  else
    slices_Repeat_Lint_int_k2 a0 v2 ()
noncomputable def slices_Repeat_Lint_int (a0 : (List Int)) (a1 : Int) : Option (List Int) :=
  if (decide (a1 < 0)) = true then
    none
  else
    slices_Repeat_Lint_int_k1 a0 a1 ()
noncomputable def impl_RowSums (a0 : (List (List Int))) : Option ((List Int) × Bool) :=
  (impl_isGraph a0).bind fun v1 =>
  if (!v1) = true then
    some ([], false)
  else
    (slices_Repeat_Lint_int ([1]) (a0.length : Int)).bind fun v3 =>
    (impl_times a0 v3).bind fun v4 =>
    some (v4, true)
noncomputable def laws_FnExactRowSums (a0 : (List (List Int))) : Option Bool :=
  (laws_szIntSS a0 1048576).bind fun v1 =>
  if (decide (v1 < 0)) = true then
    some true
  else
    (laws_toIntSS a0).bind fun v3 =>
    (spec_RowSums v3).bind fun v4 =>
    (laws_toIntSS a0).bind fun v5 =>
    (impl_RowSums v5).bind fun v6 =>
    (laws_eqIntS v6.1 v4.1).bind fun v7 =>
    if ((!v7) || (!(v6.2 == v4.2))) = true then
      some false
    else
      (laws_toIntSS a0).bind fun v9 =>
      (laws_eqIntSS v5 v9).bind fun v10 =>
      if (!v10) = true then
        some false
      else
        (laws_markIntSS v5 1).bind fun v12 =>
        (if (decide (v12.1 < 0)) = true then
            some true
          else
            (laws_eqIntS v6.1 v4.1).bind fun v13 =>
            if (!v13) = true then
              some true
            else
              some (!(v6.2 == v4.2))).bind fun w14 =>
        if w14 = true then
          some false
        else
          (laws_markIntS v6.1 1).bind fun v16 =>
          (laws_heldIntS v16.2 1).bind fun v17 =>
          if (decide (v17 < 0)) = true then
            some false
          else
            if (v17 != v16.1) = true then
              some false
            else
              (laws_toIntSS a0).bind fun v20 =>
              (impl_RowSums v20).bind fun v21 =>
              (laws_eqIntS v21.1 v4.1).bind fun v22 =>
              if ((!v22) || (!(v21.2 == v4.2))) = true then
                some false
              else
                (laws_heldIntS v16.2 1).bind fun v24 =>
                if (decide (v24 < 0)) = true then
                  some false
                else
                  if (v24 != v16.1) = true then
                    some false
                  else
                    some true
noncomputable def spec_WalkDigits_k1  (x7 : Int) : Option (Int × Bool) :=
  some (x7, true)
noncomputable def spec_WalkDigits_b1  (x8 : (Int × Int)) : Option ((Int × Int) ⊕ Int) :=
  if (decide (x8.1 > 1)) = true then
    some (.inl ((w64 (Int.tdiv x8.1 2)), (w64 (x8.2 + 1))))
  else
    some (.inr x8.2)
noncomputable def spec_WalkDigits (a0 : (List (List Int))) (a1 : Int) : Option (Int × Bool) :=
  (spec_grGood a0).bind fun v1 =>
  (if (!v1) = true then
      some true
    else
      (spec_grSteps a1).bind fun v2 =>
      some (!v2)).bind fun w3 =>
  if w3 = true then
    some (0, false)
  else
    (spec_gwTotal a0 a1).bind fun v5 =>
    if ((v5 == 0) || (decide (v5 > 1000000000))) = true then
      some (0, false)
    else
      (loopO spec_WalkDigits_b1 (v5, 0)).bind fun y9 => spec_WalkDigits_k1 y9
noncomputable def impl_WalkDigits_k1  (x3 : Int) : Option (Int × Bool) :=
  some (x3, true)
noncomputable def impl_WalkDigits_b1  (x4 : (Int × Int)) : Option ((Int × Int) ⊕ Int) :=
  if (decide (x4.1 > 1)) = true then
    some (.inl ((w64 (Int.tdiv x4.1 2)), (w64 (x4.2 + 1))))
  else
    some (.inr x4.2)
noncomputable def impl_WalkDigits (a0 : (List (List Int))) (a1 : Int) : Option (Int × Bool) :=
  (impl_TotalWalks a0 a1).bind fun v1 =>
  if ((!v1.2) || (v1.1 == 0)) = true then
    some (0, false)
  else
    (loopO impl_WalkDigits_b1 (v1.1, 0)).bind fun y5 => impl_WalkDigits_k1 y5
noncomputable def laws_FnExactWalkDigits (a0 : (List (List Int))) (a1 : Int) : Option Bool :=
  (laws_szIntSS a0 1048576).bind fun v1 =>
  if (decide (v1 < 0)) = true then
    some true
  else
    (laws_toIntSS a0).bind fun v3 =>
    (spec_WalkDigits v3 a1).bind fun v4 =>
    (laws_toIntSS a0).bind fun v5 =>
    (impl_WalkDigits v5 a1).bind fun v6 =>
    if ((v6.1 != v4.1) || (!(v6.2 == v4.2))) = true then
      some false
    else
      (laws_toIntSS a0).bind fun v8 =>
      (laws_eqIntSS v5 v8).bind fun v9 =>
      if (!v9) = true then
        some false
      else
        some true
noncomputable def spec_gwSteps (a0 : Int) : Option Bool :=
  (spec_l1In a0 0 20).bind fun v1 =>
  some v1
noncomputable def spec_gwWalks_k2  (x3 : (List Int)) : Option ((List Int) × Bool) :=
  some (x3, true)
noncomputable def spec_gwWalks_k3 (x4 : (Int × (List Int))) (x7 : (List Int)) : Option ((Int × (List Int)) ⊕ (((List Int) × Bool) ⊕ (List Int))) :=
  some (.inl ((w64 (x4.1 - 1)), x7))
noncomputable def spec_gwWalks_k4 (x4 : (Int × (List Int))) (x8 : (List Int)) : Option ((Int × (List Int)) ⊕ (((List Int) × Bool) ⊕ (List Int))) :=
  (spec_gwVector x8).bind fun v9 =>
  if (!v9) = true then
    some (.inr (.inl ([], false)))
  else
    spec_gwWalks_k3 x4 x8
noncomputable def spec_gwWalks_b2 (v11 : (List Int)) (x12 : ((List Int) × Int)) : Option (((List Int) × Int) ⊕ (List Int)) :=
  if (decide (x12.2 < (v11.length : Int))) = true then
    (idxO v11 x12.2).bind fun v15 =>
    (idxO x12.1 x12.2).bind fun v16 =>
    some (.inl ((x12.1.set (Int.toNat x12.2) (w64 (v16 + v15))), (w64 (x12.2 + 1))))
  else
    some (.inr x12.1)
noncomputable def spec_gwWalks_b1 (a0 : (List (List Int))) (x4 : (Int × (List Int))) : Option ((Int × (List Int)) ⊕ (((List Int) × Bool) ⊕ (List Int))) :=
  if (decide (x4.1 > 0)) = true then
    (spec_gwTimes a0 x4.2).bind fun v11 =>
    (loopO (spec_gwWalks_b2 v11) (x4.2, 0)).bind fun y13 => spec_gwWalks_k4 x4 y13
  else
    some (.inr (.inr x4.2))
noncomputable def spec_gwWalks_k1 (a0 : (List (List Int))) (a1 : Int) (x2 : (List Int)) : Option ((List Int) × Bool) :=
  (loopO (spec_gwWalks_b1 a0) (a1, x2)).bind fun y5 => (Sum.elim (fun p => some p) (fun p => spec_gwWalks_k2 p)) y5
noncomputable def spec_gwWalks_b3 (a0 : (List (List Int))) (x17 : ((List Int) × Int)) : Option (((List Int) × Int) ⊕ (List Int)) :=
  if (decide (x17.2 < ((List.replicate (Int.toNat (a0.length : Int)) (0 : Int)).length : Int))) = true then
    (idxO x17.1 x17.2).bind fun v20 =>
    some (.inl ((x17.1.set (Int.toNat x17.2) 1), (w64 (x17.2 + 1))))
  else
    some (.inr x17.1)
noncomputable def spec_gwWalks (a0 : (List (List Int))) (a1 : Int) : Option ((List Int) × Bool) :=
  (guardO (0 ≤ (a0.length : Int) ∧ (a0.length : Int) ≤ 1099511627776)).bind fun u1 =>
  (loopO (spec_gwWalks_b3 a0) ((List.replicate (Int.toNat (a0.length : Int)) (0 : Int)), 0)).bind fun y18 => spec_gwWalks_k1 a0 a1 y18
noncomputable def impl_walkVectors_k1  (x2 : (List (List Int))) : Option (List (List Int)) :=
  some x2
noncomputable def impl_walkVectors_k2 (x3 : ((List Int) × (List (List Int)) × Int)) (x6 : ((List Int) × (List (List Int)))) : Option (((List Int) × (List (List Int)) × Int) ⊕ (List (List Int))) :=
  some (.inl (x6.1, x6.2, (w64 (x3.2.2 + 1))))
noncomputable def impl_walkVectors_k3 (x3 : ((List Int) × (List (List Int)) × Int)) (x8 : (List Int)) : Option (((List Int) × (List (List Int)) × Int) ⊕ (List (List Int))) :=
  (impl_isVector x8).bind fun v9 =>
  if (!v9) = true then
    some (.inr x3.2.1)
  else
    (guardO (x3.2.1.length + ([x8]).length ≤ 1099511627776)).bind fun u11 =>
    impl_walkVectors_k2 x3 (x8, (x3.2.1 ++ [x8]))
noncomputable def impl_walkVectors_b2 (x3 : ((List Int) × (List (List Int)) × Int)) (v7 : (List Int)) (x12 : ((List Int) × Int)) : Option (((List Int) × Int) ⊕ (List Int)) :=
  if (decide (x12.2 < (v7.length : Int))) = true then
    (idxO x12.1 x12.2).bind fun v15 =>
    (idxO x3.1 x12.2).bind fun v16 =>
    some (.inl ((x12.1.set (Int.toNat x12.2) (w64 (v15 + v16))), (w64 (x12.2 + 1))))
  else
    some (.inr x12.1)
noncomputable def impl_walkVectors_b1 (a0 : (List (List Int))) (a1 : Int) (x3 : ((List Int) × (List (List Int)) × Int)) : Option (((List Int) × (List (List Int)) × Int) ⊕ (List (List Int))) :=
  if (decide (x3.2.2 < a1)) = true then
    (impl_times a0 x3.1).bind fun v7 =>
    (loopO (impl_walkVectors_b2 x3 v7) (v7, 0)).bind fun y13 => impl_walkVectors_k3 x3 y13
  else
    some (.inr x3.2.1)
noncomputable def impl_walkVectors (a0 : (List (List Int))) (a1 : Int) : Option (List (List Int)) :=
  (slices_Repeat_Lint_int ([1]) (a0.length : Int)).bind fun v1 =>
  (loopO (impl_walkVectors_b1 a0 a1) (v1, [v1], 0)).bind fun y4 => impl_walkVectors_k1 y4
noncomputable def impl_WalkVector (a0 : (List (List Int))) (a1 : Int) : Option ((List Int) × Bool) :=
  (impl_isGraph a0).bind fun v1 =>
  (if (!v1) = true then
      some true
    else
      (impl_within a1 0 20).bind fun v2 =>
      some (!v2)).bind fun w3 =>
  if w3 = true then
    some ([], false)
  else
    (impl_walkVectors a0 a1).bind fun v5 =>
    if (decide ((v5.length : Int) ≤ a1)) = true then
      some ([], false)
    else
      (idxO v5 a1).bind fun v7 =>
      some (v7, true)
noncomputable def spec_zeTimes_k1  (x1 : (List (List Int))) : Option (List (List Int)) :=
  some x1
noncomputable def spec_zeTimes_k2 (x2 : ((List (List Int)) × Int)) (x5 : (List (List Int))) : Option (((List (List Int)) × Int) ⊕ (List (List Int))) :=
  some (.inl (x5, (w64 (x2.2 + 1))))
noncomputable def spec_zeTimes_k3 (x2 : ((List (List Int)) × Int)) (x8 : (List Int)) : Option (((List (List Int)) × Int) ⊕ (List (List Int))) :=
  (guardO (x2.1.length + ([x8]).length ≤ 1099511627776)).bind fun u9 =>
  spec_zeTimes_k2 x2 (x2.1 ++ [x8])
noncomputable def spec_zeTimes_k4 (x10 : ((List Int) × Int)) (x13 : (List Int)) : Option (((List Int) × Int) ⊕ (List Int)) :=
  some (.inl (x13, (w64 (x10.2 + 1))))
noncomputable def spec_zeTimes_b3 (v14 : Int) (v15 : (List Int)) (x16 : ((List Int) × Int)) : Option (((List Int) × Int) ⊕ (List Int)) :=
  if (decide (x16.2 < (v15.length : Int))) = true then
    (idxO v15 x16.2).bind fun v19 =>
    (idxO x16.1 x16.2).bind fun v20 =>
    some (.inl ((x16.1.set (Int.toNat x16.2) (w64 (v20 + (w64 (v14 * v19))))), (w64 (x16.2 + 1))))
  else
    some (.inr x16.1)
noncomputable def spec_zeTimes_b2 (a1 : (List (List Int))) (v6 : (List Int)) (x10 : ((List Int) × Int)) : Option (((List Int) × Int) ⊕ (List Int)) :=
  if (decide (x10.2 < (v6.length : Int))) = true then
    (idxO v6 x10.2).bind fun v14 =>
    (idxO a1 x10.2).bind fun v15 =>
    (loopO (spec_zeTimes_b3 v14 v15) (x10.1, 0)).bind fun y17 => spec_zeTimes_k4 x10 y17
  else
    some (.inr x10.1)
noncomputable def spec_zeTimes_b1 (a0 : (List (List Int))) (a1 : (List (List Int))) (x2 : ((List (List Int)) × Int)) : Option (((List (List Int)) × Int) ⊕ (List (List Int))) :=
  if (decide (x2.2 < (a0.length : Int))) = true then
    (idxO a0 x2.2).bind fun v6 =>
    (guardO (0 ≤ (a1.length : Int) ∧ (a1.length : Int) ≤ 1099511627776)).bind fun u7 =>
    (loopO (spec_zeTimes_b2 a1 v6) ((List.replicate (Int.toNat (a1.length : Int)) (0 : Int)), 0)).bind fun y11 => spec_zeTimes_k3 x2 y11
  else
    some (.inr x2.1)
noncomputable def spec_zeTimes (a0 : (List (List Int))) (a1 : (List (List Int))) : Option (List (List Int)) :=
  (loopO (spec_zeTimes_b1 a0 a1) ([], 0)).bind fun y3 => spec_zeTimes_k1 y3
noncomputable def spec_zeTrace_k1  (x1 : Int) : Option Int :=
  some x1
noncomputable def spec_zeTrace_b1 (a0 : (List (List Int))) (x2 : (Int × Int)) : Option ((Int × Int) ⊕ Int) :=
  if (decide (x2.2 < (a0.length : Int))) = true then
    (idxO a0 x2.2).bind fun v5 =>
    (idxO v5 x2.2).bind fun v6 =>
    some (.inl ((w64 (x2.1 + v6)), (w64 (x2.2 + 1))))
  else
    some (.inr x2.1)
noncomputable def spec_zeTrace (a0 : (List (List Int))) : Option Int :=
  (loopO (spec_zeTrace_b1 a0) (0, 0)).bind fun y3 => spec_zeTrace_k1 y3
noncomputable def spec_zeCoefficients_k2  (x4 : (List Int)) : Option (List Int) :=
  some x4
noncomputable def spec_zeCoefficients_k3 (x5 : ((List Int) × (List (List Int)) × Int)) (x8 : ((List Int) × (List (List Int)))) : Option (((List Int) × (List (List Int)) × Int) ⊕ (List Int)) :=
  some (.inl (x8.1, x8.2, (w64 (x5.2.2 + 1))))
noncomputable def spec_zeCoefficients_b2 (a0 : (List (List Int))) (x5 : ((List Int) × (List (List Int)) × Int)) (v9 : (List (List Int))) (v10 : Int) (x13 : ((List (List Int)) × Int)) : Option (((List (List Int)) × Int) ⊕ ((List Int) × (List (List Int)))) :=
  if (decide (x13.2 < (v9.length : Int))) = true then
    (idxO x13.1 x13.2).bind fun v16 =>
    (idxO v16 x13.2).bind fun v17 =>
    (idxO (x5.1.set (Int.toNat (w64 ((a0.length : Int) - x5.2.2))) (w64 (Int.tdiv (w64 (0 - v10)) x5.2.2))) (w64 ((a0.length : Int) - x5.2.2))).bind fun v18 =>
    some (.inl ((x13.1.set (Int.toNat x13.2) (v16.set (Int.toNat x13.2) (w64 (v17 + v18)))), (w64 (x13.2 + 1))))
  else
    some (.inr ((x5.1.set (Int.toNat (w64 ((a0.length : Int) - x5.2.2))) (w64 (Int.tdiv (w64 (0 - v10)) x5.2.2))), x13.1))
noncomputable def spec_zeCoefficients_b1 (a0 : (List (List Int))) (x5 : ((List Int) × (List (List Int)) × Int)) : Option (((List Int) × (List (List Int)) × Int) ⊕ (List Int)) :=
  if (decide (x5.2.2 ≤ (a0.length : Int))) = true then
    (spec_zeTimes a0 x5.2.1).bind fun v9 =>
    (spec_zeTrace v9).bind fun v10 =>
    (guardO (x5.2.2 ≠ 0)).bind fun u11 =>
    (idxO x5.1 (w64 ((a0.length : Int) - x5.2.2))).bind fun v12 =>
    (loopO (spec_zeCoefficients_b2 a0 x5 v9 v10) (v9, 0)).bind fun y14 => spec_zeCoefficients_k3 x5 y14
  else
    some (.inr x5.1)
noncomputable def spec_zeCoefficients_k1 (a0 : (List (List Int))) (x3 : (List (List Int))) : Option (List Int) :=
  (loopO (spec_zeCoefficients_b1 a0) (((List.replicate (Int.toNat (w64 ((a0.length : Int) + 1))) (0 : Int)).set (Int.toNat (a0.length : Int)) 1), x3, 1)).bind fun y6 => spec_zeCoefficients_k2 y6
noncomputable def spec_zeCoefficients_b3 (a0 : (List (List Int))) (x19 : ((List (List Int)) × Int)) : Option (((List (List Int)) × Int) ⊕ (List (List Int))) :=
  if (decide (x19.2 < (a0.length : Int))) = true then
    (guardO (0 ≤ (a0.length : Int) ∧ (a0.length : Int) ≤ 1099511627776)).bind fun u22 =>
    (guardO (x19.1.length + ([(List.replicate (Int.toNat (a0.length : Int)) (0 : Int))]).length ≤ 1099511627776)).bind fun u23 =>
    (idxO (x19.1 ++ [(List.replicate (Int.toNat (a0.length : Int)) (0 : Int))]) x19.2).bind fun v24 =>
    (idxO v24 x19.2).bind fun v25 =>
    some (.inl (((x19.1 ++ [(List.replicate (Int.toNat (a0.length : Int)) (0 : Int))]).set (Int.toNat x19.2) (v24.set (Int.toNat x19.2) 1)), (w64 (x19.2 + 1))))
  else
    some (.inr x19.1)
noncomputable def spec_zeCoefficients (a0 : (List (List Int))) : Option (List Int) :=
  (guardO (0 ≤ (w64 ((a0.length : Int) + 1)) ∧ (w64 ((a0.length : Int) + 1)) ≤ 1099511627776)).bind fun u1 =>
  (idxO (List.replicate (Int.toNat (w64 ((a0.length : Int) + 1))) (0 : Int)) (a0.length : Int)).bind fun v2 =>
  (loopO (spec_zeCoefficients_b3 a0) ([], 0)).bind fun y20 => spec_zeCoefficients_k1 a0 y20
noncomputable def spec_l1Own (a0 : (List Int)) : Option (List Int) :=
  (guardO (a0.length ≤ 1099511627776)).bind fun u1 =>
  some a0
noncomputable def spec_poTrim_k1  (x1 : (List Int)) : Option (List Int) :=
  (spec_l1Own x1).bind fun v2 =>
  some v2
noncomputable def spec_poTrim_b1  (x3 : (List Int)) : Option ((List Int) ⊕ (List Int)) :=
  (if (decide ((x3.length : Int) > 0)) = true then
      (idxO x3 (w64 ((x3.length : Int) - 1))).bind fun v5 =>
      some (v5 == 0)
    else
      some false).bind fun w6 =>
  if w6 = true then
    (guardO (0 ≤ (w64 ((x3.length : Int) - 1)) ∧ (w64 ((x3.length : Int) - 1)) ≤ (x3.length : Int))).bind fun u8 =>
    some (.inl (x3.take (Int.toNat (w64 ((x3.length : Int) - 1)))))
  else
    some (.inr x3)
noncomputable def spec_poTrim (a0 : (List Int)) : Option (List Int) :=
  (loopO spec_poTrim_b1 a0).bind fun y4 => spec_poTrim_k1 y4
noncomputable def spec_poGood (a0 : (List Int)) : Option Bool :=
  (if (decide ((a0.length : Int) > 9)) = true then
      some true
    else
      (spec_l1All a0 (-1000000) 1000000).bind fun v1 =>
      some (!v1)).bind fun w2 =>
  if w2 = true then
    some false
  else
    (if ((a0.length : Int) == 0) = true then
        some true
      else
        (idxO a0 (w64 ((a0.length : Int) - 1))).bind fun v4 =>
        some (v4 != 0)).bind fun w5 =>
    some w5
noncomputable def spec_poIf (a0 : (List Int)) : Option ((List Int) × Bool) :=
  (spec_poTrim a0).bind fun v1 =>
  (spec_poGood v1).bind fun v2 =>
  if (!v2) = true then
    some ([], false)
  else
    some (v1, true)
noncomputable def spec_CharacteristicOf (a0 : (List (List Int))) : Option ((List Int) × Bool) :=
  (spec_grGood a0).bind fun v1 =>
  if (!v1) = true then
    some ([], false)
  else
    (spec_zeCoefficients a0).bind fun v3 =>
    (spec_poIf v3).bind fun v4 =>
    some v4
noncomputable def impl_characteristic_k1  (x4 : (List Int)) : Option (List Int) :=
  some x4
noncomputable def impl_characteristic_k2 (x5 : ((List Int) × (List (List Int)) × Int)) (x8 : ((List Int) × (List (List Int)))) : Option (((List Int) × (List (List Int)) × Int) ⊕ (List Int)) :=
  some (.inl (x8.1, x8.2, (w64 (x5.2.2 + 1))))
noncomputable def impl_characteristic_k4 (a0 : (List (List Int))) (x5 : ((List Int) × (List (List Int)) × Int)) (x11 : ((List (List Int)) × Int)) : Option (((List Int) × (List (List Int)) × Int) ⊕ (List Int)) :=
  (guardO (x5.2.2 ≠ 0)).bind fun u12 =>
  (idxO x5.1 (w64 ((a0.length : Int) - x5.2.2))).bind fun v13 =>
  impl_characteristic_k2 x5 ((x5.1.set (Int.toNat (w64 ((a0.length : Int) - x5.2.2))) (w64 (Int.tdiv (w64 (0 - x11.2)) x5.2.2))), x11.1)
noncomputable def impl_characteristic_k5 (x14 : ((List (List Int)) × Int × Int)) (x17 : ((List (List Int)) × Int)) : Option (((List (List Int)) × Int × Int) ⊕ ((List (List Int)) × Int)) :=
  some (.inl (x17.1, x17.2, (w64 (x14.2.2 + 1))))
noncomputable def impl_characteristic_k6 (x14 : ((List (List Int)) × Int × Int)) (x18 : (List (List Int))) : Option (((List (List Int)) × Int × Int) ⊕ ((List (List Int)) × Int)) :=
  (idxO x18 x14.2.2).bind fun v19 =>
  (idxO v19 x14.2.2).bind fun v20 =>
  impl_characteristic_k5 x14 (x18, (w64 (x14.2.1 + v20)))
noncomputable def impl_characteristic_k7 (x21 : ((List (List Int)) × Int)) (x24 : (List (List Int))) : Option (((List (List Int)) × Int) ⊕ (List (List Int))) :=
  some (.inl (x24, (w64 (x21.2 + 1))))
noncomputable def impl_characteristic_b4 (a0 : (List (List Int))) (x9 : (List (List Int))) (x14 : ((List (List Int)) × Int × Int)) (x21 : ((List (List Int)) × Int)) (x25 : ((List (List Int)) × Int)) : Option (((List (List Int)) × Int) ⊕ (List (List Int))) :=
  if (decide (x25.2 < (a0.length : Int))) = true then
    (idxO x25.1 x14.2.2).bind fun v28 =>
    (idxO v28 x21.2).bind fun v29 =>
    (idxO a0 x14.2.2).bind fun v30 =>
    (idxO v30 x25.2).bind fun v31 =>
    (idxO x9 x25.2).bind fun v32 =>
    (idxO v32 x21.2).bind fun v33 =>
    some (.inl ((x25.1.set (Int.toNat x14.2.2) (v28.set (Int.toNat x21.2) (w64 (v29 + (w64 (v31 * v33)))))), (w64 (x25.2 + 1))))
  else
    some (.inr x25.1)
noncomputable def impl_characteristic_b3 (a0 : (List (List Int))) (x9 : (List (List Int))) (x14 : ((List (List Int)) × Int × Int)) (x21 : ((List (List Int)) × Int)) : Option (((List (List Int)) × Int) ⊕ (List (List Int))) :=
  if (decide (x21.2 < (a0.length : Int))) = true then
    (loopO (impl_characteristic_b4 a0 x9 x14 x21) (x21.1, 0)).bind fun y26 => impl_characteristic_k7 x21 y26
  else
    some (.inr x21.1)
noncomputable def impl_characteristic_b2 (a0 : (List (List Int))) (x9 : (List (List Int))) (x14 : ((List (List Int)) × Int × Int)) : Option (((List (List Int)) × Int × Int) ⊕ ((List (List Int)) × Int)) :=
  if (decide (x14.2.2 < (a0.length : Int))) = true then
    (loopO (impl_characteristic_b3 a0 x9 x14) (x14.1, 0)).bind fun y22 => impl_characteristic_k6 x14 y22
  else
    some (.inr (x14.1, x14.2.1))
noncomputable def impl_characteristic_k3 (a0 : (List (List Int))) (x5 : ((List Int) × (List (List Int)) × Int)) (x9 : (List (List Int))) : Option (((List Int) × (List (List Int)) × Int) ⊕ (List Int)) :=
  (impl_emptyGraph (a0.length : Int)).bind fun v10 =>
  (loopO (impl_characteristic_b2 a0 x9) (v10, 0, 0)).bind fun y15 => impl_characteristic_k4 a0 x5 y15
noncomputable def impl_characteristic_b5 (a0 : (List (List Int))) (x5 : ((List Int) × (List (List Int)) × Int)) (x34 : ((List (List Int)) × Int)) : Option (((List (List Int)) × Int) ⊕ (List (List Int))) :=
  if (decide (x34.2 < (x5.2.1.length : Int))) = true then
    (idxO x34.1 x34.2).bind fun v37 =>
    (idxO v37 x34.2).bind fun v38 =>
    (idxO x5.1 (w64 ((w64 ((a0.length : Int) - x5.2.2)) + 1))).bind fun v39 =>
    some (.inl ((x34.1.set (Int.toNat x34.2) (v37.set (Int.toNat x34.2) (w64 (v38 + v39)))), (w64 (x34.2 + 1))))
  else
    some (.inr x34.1)
noncomputable def impl_characteristic_b1 (a0 : (List (List Int))) (x5 : ((List Int) × (List (List Int)) × Int)) : Option (((List Int) × (List (List Int)) × Int) ⊕ (List Int)) :=
  if (decide (x5.2.2 ≤ (a0.length : Int))) = true then
    (loopO (impl_characteristic_b5 a0 x5) (x5.2.1, 0)).bind fun y35 => impl_characteristic_k3 a0 x5 y35
  else
    some (.inr x5.1)
noncomputable def impl_characteristic (a0 : (List (List Int))) : Option (List Int) :=
  (guardO (0 ≤ (w64 ((a0.length : Int) + 1)) ∧ (w64 ((a0.length : Int) + 1)) ≤ 1099511627776)).bind fun u1 =>
  (idxO (List.replicate (Int.toNat (w64 ((a0.length : Int) + 1))) (0 : Int)) (a0.length : Int)).bind fun v2 =>
  (impl_emptyGraph (a0.length : Int)).bind fun v3 =>
  (loopO (impl_characteristic_b1 a0) (((List.replicate (Int.toNat (w64 ((a0.length : Int) + 1))) (0 : Int)).set (Int.toNat (a0.length : Int)) 1), v3, 1)).bind fun y6 => impl_characteristic_k1 y6
noncomputable def impl_isPolynomial_1 (a0 : Int) : Option Bool :=
  (impl_within a0 (-1000000) 1000000).bind fun v1 =>
  some (!v1)
noncomputable def impl_isPolynomial (a0 : (List Int)) : Option Bool :=
  (if (decide ((a0.length : Int) ≤ 9)) = true then
      (slices_ContainsFunc_Lint_int a0 (fun x0 => impl_isPolynomial_1 x0)).bind fun v1 =>
      if (!v1) = true then
        if ((a0.length : Int) == 0) = true then
          some true
        else
          (idxO a0 (w64 ((a0.length : Int) - 1))).bind fun v2 =>
          some (v2 != 0)
      else
        some false
    else
      some false).bind fun w3 =>
  some w3
noncomputable def slices_Clone_Lint_int (a0 : (List Int)) : Option (List Int) :=
  (guardO (a0.length ≤ 1099511627776)).bind fun u2 =>
  some a0
noncomputable def impl_polynomial_k1  (x1 : (List Int)) : Option ((List Int) × Bool) :=
  (impl_isPolynomial x1).bind fun v2 =>
  if (!v2) = true then
    some ([], false)
  else
    (slices_Clone_Lint_int x1).bind fun v4 =>
    some (v4, true)
noncomputable def impl_polynomial_b1  (x5 : (List Int)) : Option ((List Int) ⊕ (List Int)) :=
  (if (decide ((x5.length : Int) > 0)) = true then
      (idxO x5 (w64 ((x5.length : Int) - 1))).bind fun v7 =>
      some (v7 == 0)
    else
      some false).bind fun w8 =>
  if w8 = true then
    (guardO (0 ≤ (w64 ((x5.length : Int) - 1)) ∧ (w64 ((x5.length : Int) - 1)) ≤ (x5.length : Int))).bind fun u10 =>
    some (.inl (x5.take (Int.toNat (w64 ((x5.length : Int) - 1)))))
  else
    some (.inr x5)
noncomputable def impl_polynomial (a0 : (List Int)) : Option ((List Int) × Bool) :=
  (loopO impl_polynomial_b1 a0).bind fun y6 => impl_polynomial_k1 y6
noncomputable def impl_CharacteristicOf (a0 : (List (List Int))) : Option ((List Int) × Bool) :=
  (impl_isGraph a0).bind fun v1 =>
  if (!v1) = true then
    some ([], false)
  else
    (impl_characteristic a0).bind fun v3 =>
    (impl_polynomial v3).bind fun v4 =>
    some v4
noncomputable def laws_FnExactCharacteristicOf (a0 : (List (List Int))) : Option Bool :=
  (laws_szIntSS a0 1048576).bind fun v1 =>
  if (decide (v1 < 0)) = true then
    some true
  else
    (laws_toIntSS a0).bind fun v3 =>
    (spec_CharacteristicOf v3).bind fun v4 =>
    (laws_toIntSS a0).bind fun v5 =>
    (impl_CharacteristicOf v5).bind fun v6 =>
    (laws_eqIntS v6.1 v4.1).bind fun v7 =>
    if ((!v7) || (!(v6.2 == v4.2))) = true then
      some false
    else
      (laws_toIntSS a0).bind fun v9 =>
      (laws_eqIntSS v5 v9).bind fun v10 =>
      if (!v10) = true then
        some false
      else
        (laws_markIntSS v5 1).bind fun v12 =>
        (if (decide (v12.1 < 0)) = true then
            some true
          else
            (laws_eqIntS v6.1 v4.1).bind fun v13 =>
            if (!v13) = true then
              some true
            else
              some (!(v6.2 == v4.2))).bind fun w14 =>
        if w14 = true then
          some false
        else
          (laws_markIntS v6.1 1).bind fun v16 =>
          (laws_heldIntS v16.2 1).bind fun v17 =>
          if (decide (v17 < 0)) = true then
            some false
          else
            if (v17 != v16.1) = true then
              some false
            else
              (laws_toIntSS a0).bind fun v20 =>
              (impl_CharacteristicOf v20).bind fun v21 =>
              (laws_eqIntS v21.1 v4.1).bind fun v22 =>
              if ((!v22) || (!(v21.2 == v4.2))) = true then
                some false
              else
                (laws_heldIntS v16.2 1).bind fun v24 =>
                if (decide (v24 < 0)) = true then
                  some false
                else
                  if (v24 != v16.1) = true then
                    some false
                  else
                    some true
noncomputable def spec_zeBack_k1  (x1 : (List Int)) : Option (List Int) :=
  some x1
noncomputable def spec_zeBack_b1 (a0 : (List Int)) (x2 : ((List Int) × Int)) : Option (((List Int) × Int) ⊕ (List Int)) :=
  if (decide (x2.2 ≥ 0)) = true then
    (idxO a0 x2.2).bind fun v5 =>
    (guardO (x2.1.length + ([v5]).length ≤ 1099511627776)).bind fun u6 =>
    some (.inl ((x2.1 ++ [v5]), (w64 (x2.2 - 1))))
  else
    some (.inr x2.1)
noncomputable def spec_zeBack (a0 : (List Int)) : Option (List Int) :=
  (loopO (spec_zeBack_b1 a0) ([], (w64 ((a0.length : Int) - 1)))).bind fun y3 => spec_zeBack_k1 y3
noncomputable def spec_ZetaDenominator (a0 : (List (List Int))) : Option ((List Int) × Bool) :=
  (spec_grGood a0).bind fun v1 =>
  if (!v1) = true then
    some ([], false)
  else
    (spec_zeCoefficients a0).bind fun v3 =>
    (spec_zeBack v3).bind fun v4 =>
    (spec_poIf v4).bind fun v5 =>
    some v5
noncomputable def slices_Reverse_Lint_int_b1  (x1 : ((List Int) × Int × Int)) : Option (((List Int) × Int × Int) ⊕ (List Int)) :=
  if (decide (x1.2.1 < x1.2.2)) = true then
    (idxO x1.1 x1.2.1).bind fun v4 =>
    (idxO x1.1 x1.2.2).bind fun v5 =>
    (guardO (x1.2.1 ≠ x1.2.2)).bind fun u6 =>
    some (.inl (((x1.1.set (Int.toNat x1.2.1) v5).set (Int.toNat x1.2.2) v4), (w64 (x1.2.1 + 1)), (w64 (x1.2.2 - 1))))
  else
    some (.inr x1.1)
noncomputable def slices_Reverse_Lint_int (a0 : (List Int)) : Option (List Int) :=
  (loopO slices_Reverse_Lint_int_b1 (a0, 0, (w64 ((a0.length : Int) - 1)))).bind fun y2 => some y2
noncomputable def impl_ZetaDenominator (a0 : (List (List Int))) : Option ((List Int) × Bool) :=
  (impl_isGraph a0).bind fun v1 =>
  if (!v1) = true then
    some ([], false)
  else
    (impl_characteristic a0).bind fun v3 =>
    (slices_Reverse_Lint_int v3).bind fun v4 =>
    (impl_polynomial v4).bind fun v5 =>
    some v5
noncomputable def laws_FnExactZetaDenominator (a0 : (List (List Int))) : Option Bool :=
  (laws_szIntSS a0 1048576).bind fun v1 =>
  if (decide (v1 < 0)) = true then
    some true
  else
    (laws_toIntSS a0).bind fun v3 =>
    (spec_ZetaDenominator v3).bind fun v4 =>
    (laws_toIntSS a0).bind fun v5 =>
    (impl_ZetaDenominator v5).bind fun v6 =>
    (laws_eqIntS v6.1 v4.1).bind fun v7 =>
    if ((!v7) || (!(v6.2 == v4.2))) = true then
      some false
    else
      (laws_toIntSS a0).bind fun v9 =>
      (laws_eqIntSS v5 v9).bind fun v10 =>
      if (!v10) = true then
        some false
      else
        (laws_markIntSS v5 1).bind fun v12 =>
        (if (decide (v12.1 < 0)) = true then
            some true
          else
            (laws_eqIntS v6.1 v4.1).bind fun v13 =>
            if (!v13) = true then
              some true
            else
              some (!(v6.2 == v4.2))).bind fun w14 =>
        if w14 = true then
          some false
        else
          (laws_markIntS v6.1 1).bind fun v16 =>
          (laws_heldIntS v16.2 1).bind fun v17 =>
          if (decide (v17 < 0)) = true then
            some false
          else
            if (v17 != v16.1) = true then
              some false
            else
              (laws_toIntSS a0).bind fun v20 =>
              (impl_ZetaDenominator v20).bind fun v21 =>
              (laws_eqIntS v21.1 v4.1).bind fun v22 =>
              if ((!v22) || (!(v21.2 == v4.2))) = true then
                some false
              else
                (laws_heldIntS v16.2 1).bind fun v24 =>
                if (decide (v24 < 0)) = true then
                  some false
                else
                  if (v24 != v16.1) = true then
                    some false
                  else
                    some true
noncomputable def spec_raMake_k1 (a0 : Int) (a1 : Int) (x5 : Int) : Option ((Int × Int) × Bool) :=
  (guardO (x5 ≠ 0)).bind fun u6 =>
  (spec_raGood ((w64 (Int.tdiv a0 x5)), (w64 (Int.tdiv a1 x5)))).bind fun v7 =>
  if (!v7) = true then
    some ((0, 0), false)
  else
    some (((w64 (Int.tdiv a0 x5)), (w64 (Int.tdiv a1 x5))), true)
noncomputable def spec_raMake (a0 : Int) (a1 : Int) : Option ((Int × Int) × Bool) :=
  if (a1 == 0) = true then
    some ((0, 0), false)
  else
    (spec_l1Abs a0).bind fun v2 =>
    (spec_l1Abs a1).bind fun v3 =>
    (spec_raCommon v2 v3).bind fun v4 =>
    if (decide (a1 < 0)) = true then
      spec_raMake_k1 a0 a1 (w64 (0 - v4))
    else
      spec_raMake_k1 a0 a1 v4
noncomputable def spec_gwRatios_k1  (x1 : (List (Int × Int))) : Option (List (Int × Int)) :=
  some x1
noncomputable def spec_gwRatios_b1 (a1 : (List Int)) (v2 : (List Int)) (x3 : ((List (Int × Int)) × Int)) : Option (((List (Int × Int)) × Int) ⊕ (List (Int × Int))) :=
  if (decide (x3.2 < (v2.length : Int))) = true then
    (idxO v2 x3.2).bind fun v6 =>
    (idxO a1 x3.2).bind fun v7 =>
    (spec_raMake v6 v7).bind fun v8 =>
    (guardO (x3.1.length + ([v8.1]).length ≤ 1099511627776)).bind fun u9 =>
    some (.inl ((x3.1 ++ [v8.1]), (w64 (x3.2 + 1))))
  else
    some (.inr x3.1)
noncomputable def spec_gwRatios (a0 : (List (List Int))) (a1 : (List Int)) : Option (List (Int × Int)) :=
  (spec_gwTimes a0 a1).bind fun v2 =>
  (loopO (spec_gwRatios_b1 a1 v2) ([], 0)).bind fun y4 => spec_gwRatios_k1 y4
noncomputable def spec_l1Sign (a0 : Int) : Option Int :=
  if (decide (a0 > 0)) = true then
    some 1
  else
    if (decide (a0 < 0)) = true then
      some (-1)
    else
      some 0
noncomputable def spec_raCmp (a0 : (Int × Int)) (a1 : (Int × Int)) : Option Int :=
  (spec_l1Sign (w64 ((w64 (a0.1 * a1.2)) - (w64 (a1.1 * a0.2))))).bind fun v1 =>
  some v1
noncomputable def spec_ivLess (a0 : (Int × Int)) (a1 : (Int × Int)) : Option (Int × Int) :=
  (spec_raCmp a0 a1).bind fun v1 =>
  if (decide (v1 < 0)) = true then
    some a0
  else
    some a1
noncomputable def spec_ivGreater (a0 : (Int × Int)) (a1 : (Int × Int)) : Option (Int × Int) :=
  (spec_raCmp a0 a1).bind fun v1 =>
  if (decide (v1 < 0)) = true then
    some a1
  else
    some a0
noncomputable def spec_gwBounds_k1  (x3 : (Int × Int × Int × Int)) : Option ((Int × Int) × (Int × Int)) :=
  some ((x3.1, x3.2.1), x3.2.2)
noncomputable def spec_gwBounds_b1 (v1 : (List (Int × Int))) (x4 : (Int × Int × Int × Int × Int)) : Option ((Int × Int × Int × Int × Int) ⊕ (Int × Int × Int × Int)) :=
  if (decide (x4.2.2.2.2 < (v1.length : Int))) = true then
    (idxO v1 x4.2.2.2.2).bind fun v7 =>
    (spec_ivLess (x4.1, x4.2.1) v7).bind fun v8 =>
    (spec_ivGreater (x4.2.2.1, x4.2.2.2.1) v7).bind fun v9 =>
    some (.inl (v8.1, v8.2, v9.1, v9.2, (w64 (x4.2.2.2.2 + 1))))
  else
    some (.inr (x4.1, x4.2.1, x4.2.2.1, x4.2.2.2.1))
noncomputable def spec_gwBounds (a0 : (List (List Int))) (a1 : (List Int)) : Option ((Int × Int) × (Int × Int)) :=
  (spec_gwRatios a0 a1).bind fun v1 =>
  (idxO v1 0).bind fun v2 =>
  (loopO (spec_gwBounds_b1 v1) (v2.1, v2.2, v2.1, v2.2, 0)).bind fun y5 => spec_gwBounds_k1 y5
noncomputable def spec_RatioBounds (a0 : (List (List Int))) (a1 : (List Int)) : Option ((Int × Int) × (Int × Int) × Bool) :=
  (spec_gwAsked a0 a1).bind fun v1 =>
  if (!v1) = true then
    some ((0, 0), (0, 0), false)
  else
    (spec_gwBounds a0 a1).bind fun v3 =>
    some (v3.1, v3.2, true)
noncomputable def slices_MinFunc_Limpl_Rat_impl_Rat_k2  (x3 : (Int × Int)) : Option (Int × Int) :=
  some x3
noncomputable def slices_MinFunc_Limpl_Rat_impl_Rat_b1 (a0 : (List (Int × Int))) (a1 : (Int × Int) → (Int × Int) → Option Int) (x4 : (Int × Int × Int)) : Option ((Int × Int × Int) ⊕ (Int × Int)) :=
  if (decide (x4.2.2 < (a0.length : Int))) = true then
    (idxO a0 x4.2.2).bind fun v7 =>
    (a1 v7 (x4.1, x4.2.1)).bind fun v8 =>
    if (decide (v8 < 0)) = true then
      some (.inl (v7.1, v7.2, (w64 (x4.2.2 + 1))))
    else
      some (.inl (x4.1, x4.2.1, (w64 (x4.2.2 + 1))))
  else
    some (.inr (x4.1, x4.2.1))
noncomputable def slices_MinFunc_Limpl_Rat_impl_Rat_k1 (a0 : (List (Int × Int))) (a1 : (Int × Int) → (Int × Int) → Option Int) (x1 : Unit) : Option (Int × Int) :=
  (idxO a0 0).bind fun v2 =>
  (loopO (slices_MinFunc_Limpl_Rat_impl_Rat_b1 a0 a1) (v2.1, v2.2, 1)).bind fun y5 => slices_MinFunc_Limpl_Rat_impl_Rat_k2 y5
noncomputable def slices_MinFunc_Limpl_Rat_impl_Rat (a0 : (List (Int × Int))) (a1 : ((Int × Int) → (Int × Int) → Option Int)) : Option (Int × Int) :=
  if (decide ((a0.length : Int) < 1)) = true then
    none
  else
    slices_MinFunc_Limpl_Rat_impl_Rat_k1 a0 a1 ()
noncomputable def slices_MaxFunc_Limpl_Rat_impl_Rat_k2  (x3 : (Int × Int)) : Option (Int × Int) :=
  some x3
noncomputable def slices_MaxFunc_Limpl_Rat_impl_Rat_b1 (a0 : (List (Int × Int))) (a1 : (Int × Int) → (Int × Int) → Option Int) (x4 : (Int × Int × Int)) : Option ((Int × Int × Int) ⊕ (Int × Int)) :=
  if (decide (x4.2.2 < (a0.length : Int))) = true then
    (idxO a0 x4.2.2).bind fun v7 =>
    (a1 v7 (x4.1, x4.2.1)).bind fun v8 =>
    if (decide (v8 > 0)) = true then
      some (.inl (v7.1, v7.2, (w64 (x4.2.2 + 1))))
    else
      some (.inl (x4.1, x4.2.1, (w64 (x4.2.2 + 1))))
  else
    some (.inr (x4.1, x4.2.1))
noncomputable def slices_MaxFunc_Limpl_Rat_impl_Rat_k1 (a0 : (List (Int × Int))) (a1 : (Int × Int) → (Int × Int) → Option Int) (x1 : Unit) : Option (Int × Int) :=
  (idxO a0 0).bind fun v2 =>
  (loopO (slices_MaxFunc_Limpl_Rat_impl_Rat_b1 a0 a1) (v2.1, v2.2, 1)).bind fun y5 => slices_MaxFunc_Limpl_Rat_impl_Rat_k2 y5
noncomputable def slices_MaxFunc_Limpl_Rat_impl_Rat (a0 : (List (Int × Int))) (a1 : ((Int × Int) → (Int × Int) → Option Int)) : Option (Int × Int) :=
  if (decide ((a0.length : Int) < 1)) = true then
    none
  else
    slices_MaxFunc_Limpl_Rat_impl_Rat_k1 a0 a1 ()
noncomputable def impl_ratioBounds_k1  (x1 : (List (Int × Int))) : Option ((Int × Int) × (Int × Int)) :=
  (slices_MinFunc_Limpl_Rat_impl_Rat x1 (fun x0 x1 => impl_compare x0 x1)).bind fun v2 =>
  (slices_MaxFunc_Limpl_Rat_impl_Rat x1 (fun x0 x1 => impl_compare x0 x1)).bind fun v3 =>
  some (v2, v3)
noncomputable def impl_ratioBounds_b1 (a1 : (List Int)) (v4 : (List Int)) (x5 : ((List (Int × Int)) × Int)) : Option (((List (Int × Int)) × Int) ⊕ (List (Int × Int))) :=
  if (decide (x5.2 < (v4.length : Int))) = true then
    (idxO v4 x5.2).bind fun v8 =>
    (idxO a1 x5.2).bind fun v9 =>
    (impl_lowest v8 v9).bind fun v10 =>
    (guardO (x5.1.length + ([v10.1]).length ≤ 1099511627776)).bind fun u11 =>
    some (.inl ((x5.1 ++ [v10.1]), (w64 (x5.2 + 1))))
  else
    some (.inr x5.1)
noncomputable def impl_ratioBounds (a0 : (List (List Int))) (a1 : (List Int)) : Option ((Int × Int) × (Int × Int)) :=
  (impl_times a0 a1).bind fun v4 =>
  (loopO (impl_ratioBounds_b1 a1 v4) ([], 0)).bind fun y6 => impl_ratioBounds_k1 y6
noncomputable def impl_RatioBounds (a0 : (List (List Int))) (a1 : (List Int)) : Option ((Int × Int) × (Int × Int) × Bool) :=
  (impl_isVectorOf a0 a1).bind fun v1 =>
  if (!v1) = true then
    some ((0, 0), (0, 0), false)
  else
    (impl_ratioBounds a0 a1).bind fun v3 =>
    some (v3.1, v3.2, true)
noncomputable def laws_FnExactRatioBounds (a0 : (List (List Int))) (a1 : (List Int)) : Option Bool :=
  if (decide ((a1.length : Int) > 1048576)) = true then
    some true
  else
    (laws_szIntSS a0 1048576).bind fun v2 =>
    if (decide (v2 < 0)) = true then
      some true
    else
      (laws_toIntSS a0).bind fun v4 =>
      (laws_toIntS a1).bind fun v5 =>
      (spec_RatioBounds v4 v5).bind fun v6 =>
      (laws_toIntSS a0).bind fun v7 =>
      (laws_toIntS a1).bind fun v8 =>
      (impl_RatioBounds v7 v8).bind fun v9 =>
      (laws_eqRat v9.1 v6.1).bind fun v10 =>
      (if (!v10) = true then
          some true
        else
          (laws_eqRat v9.2.1 v6.2.1).bind fun v11 =>
          if (!v11) = true then
            some true
          else
            some (!(v9.2.2 == v6.2.2))).bind fun w12 =>
      if w12 = true then
        some false
      else
        (laws_toIntSS a0).bind fun v14 =>
        (laws_eqIntSS v7 v14).bind fun v15 =>
        if (!v15) = true then
          some false
        else
          (laws_toIntS a1).bind fun v17 =>
          (laws_eqIntS v8 v17).bind fun v18 =>
          if (!v18) = true then
            some false
          else
            some true
noncomputable def slices_IndexFunc_Limpl_Point_impl_Point_k1  (x1 : Unit) : Option Int :=
  some (-1)
noncomputable def slices_IndexFunc_Limpl_Point_impl_Point_b1 (a0 : (List ((Int × Int) × (Int × Int)))) (a1 : ((Int × Int) × (Int × Int)) → Option Bool) (x2 : Int) : Option (Int ⊕ (Int ⊕ Unit)) :=
  if (decide (x2 < (a0.length : Int))) = true then
    (idxO a0 x2).bind fun v5 =>
    (a1 v5).bind fun v6 =>
    if v6 = true then
      some (.inr (.inl x2))
    else
      some (.inl (w64 (x2 + 1)))
  else
    some (.inr (.inr ()))
noncomputable def slices_IndexFunc_Limpl_Point_impl_Point (a0 : (List ((Int × Int) × (Int × Int)))) (a1 : (((Int × Int) × (Int × Int)) → Option Bool)) : Option Int :=
  (loopO (slices_IndexFunc_Limpl_Point_impl_Point_b1 a0 a1) 0).bind fun y3 => (Sum.elim (fun p => some p) (fun p => slices_IndexFunc_Limpl_Point_impl_Point_k1 p)) y3
noncomputable def slices_ContainsFunc_Limpl_Point_impl_Point (a0 : (List ((Int × Int) × (Int × Int)))) (a1 : (((Int × Int) × (Int × Int)) → Option Bool)) : Option Bool :=
  (slices_IndexFunc_Limpl_Point_impl_Point a0 a1).bind fun v1 =>
  some (decide (v1 ≥ 0))
noncomputable def impl_isUnit (a0 : (Int × Int)) : Option Bool :=
  (impl_isRat a0).bind fun v1 =>
  some (v1 && ((decide (a0.1 ≥ 0)) && (decide (a0.1 ≤ a0.2))))
noncomputable def impl_isCoord (a0 : (Int × Int)) : Option Bool :=
  (impl_isUnit a0).bind fun v1 =>
  some (v1 && (decide (a0.2 ≤ 100)))
noncomputable def impl_isLift_1 (a0 : ((Int × Int) × (Int × Int))) : Option Bool :=
  (impl_isCoord a0.1).bind fun v1 =>
  (if (!v1) = true then
      some true
    else
      (impl_isRat a0.2).bind fun v2 =>
      if (!v2) = true then
        some true
      else
        if (decide (a0.2.2 > 100)) = true then
          some true
        else
          (impl_whole (-5)).bind fun v3 =>
          (impl_less a0.2 v3).bind fun v4 =>
          if v4 = true then
            some true
          else
            (impl_whole 5).bind fun v5 =>
            (impl_less v5 a0.2).bind fun v6 =>
            some v6).bind fun w7 =>
  some w7
noncomputable def spec_raUnit (a0 : (Int × Int)) : Option Bool :=
  (spec_raGood a0).bind fun v1 =>
  (if v1 = true then
      (spec_l1In a0.1 0 a0.2).bind fun v2 =>
      some v2
    else
      some false).bind fun w3 =>
  some w3
noncomputable def spec_imCoord (a0 : (Int × Int)) : Option Bool :=
  (spec_raUnit a0).bind fun v1 =>
  some (v1 && (decide (a0.2 ≤ 100)))
noncomputable def laws_szPointS (a0 : (List ((Int × Int) × (Int × Int)))) (a1 : Int) : Option Int :=
  if (decide ((w64 (a1 - (a0.length : Int))) < 0)) = true then
    some (-1)
  else
    some (w64 (a1 - (a0.length : Int)))
noncomputable def laws_toPoint (a0 : ((Int × Int) × (Int × Int))) : Option ((Int × Int) × (Int × Int)) :=
  (laws_toRat a0.1).bind fun v1 =>
  (laws_toRat a0.2).bind fun v2 =>
  some (v1, v2)
noncomputable def laws_toPointS_k1  (x2 : (List ((Int × Int) × (Int × Int)))) : Option (List ((Int × Int) × (Int × Int))) :=
  some x2
noncomputable def laws_toPointS_b1 (a0 : (List ((Int × Int) × (Int × Int)))) (x3 : ((List ((Int × Int) × (Int × Int))) × Int)) : Option (((List ((Int × Int) × (Int × Int))) × Int) ⊕ (List ((Int × Int) × (Int × Int)))) :=
  if (decide (x3.2 < (a0.length : Int))) = true then
    (idxO a0 x3.2).bind fun v6 =>
    (laws_toPoint v6).bind fun v7 =>
    (idxO x3.1 x3.2).bind fun v8 =>
    some (.inl ((x3.1.set (Int.toNat x3.2) v7), (w64 (x3.2 + 1))))
  else
    some (.inr x3.1)
noncomputable def laws_toPointS (a0 : (List ((Int × Int) × (Int × Int)))) : Option (List ((Int × Int) × (Int × Int))) :=
  (guardO (0 ≤ (a0.length : Int) ∧ (a0.length : Int) ≤ 1099511627776)).bind fun u1 =>
  (loopO (laws_toPointS_b1 a0) ((List.replicate (Int.toNat (a0.length : Int)) ((0, 0), (0, 0))), 0)).bind fun y4 => laws_toPointS_k1 y4
noncomputable def laws_eqPoint (a0 : ((Int × Int) × (Int × Int))) (a1 : ((Int × Int) × (Int × Int))) : Option Bool :=
  (laws_eqRat a0.1 a1.1).bind fun v1 =>
  if (!v1) = true then
    some false
  else
    (laws_eqRat a0.2 a1.2).bind fun v3 =>
    if (!v3) = true then
      some false
    else
      some true
noncomputable def laws_eqPointS_k1  (x2 : Unit) : Option Bool :=
  some true
noncomputable def laws_eqPointS_b1 (a0 : (List ((Int × Int) × (Int × Int)))) (a1 : (List ((Int × Int) × (Int × Int)))) (x3 : Int) : Option (Int ⊕ (Bool ⊕ Unit)) :=
  if (decide (x3 < (a0.length : Int))) = true then
    (idxO a0 x3).bind fun v6 =>
    (idxO a1 x3).bind fun v7 =>
    (laws_eqPoint v6 v7).bind fun v8 =>
    if (!v8) = true then
      some (.inr (.inl false))
    else
      some (.inl (w64 (x3 + 1)))
  else
    some (.inr (.inr ()))
noncomputable def laws_eqPointS (a0 : (List ((Int × Int) × (Int × Int)))) (a1 : (List ((Int × Int) × (Int × Int)))) : Option Bool :=
  if ((a0.length : Int) != (a1.length : Int)) = true then
    some false
  else
    (loopO (laws_eqPointS_b1 a0 a1) 0).bind fun y4 => (Sum.elim (fun p => some p) (fun p => laws_eqPointS_k1 p)) y4
noncomputable def laws_markRatS_k1  (x1 : ((List (Int × Int)) × Int)) : Option (Int × (List (Int × Int))) :=
  some (x1.2, x1.1)
noncomputable def laws_markRatS_b1  (x2 : ((List (Int × Int)) × Int × Int)) : Option (((List (Int × Int)) × Int × Int) ⊕ ((List (Int × Int)) × Int)) :=
  if (decide (x2.2.2 < (x2.1.length : Int))) = true then
    (idxO x2.1 x2.2.2).bind fun v5 =>
    (idxO (x2.1.set (Int.toNat x2.2.2) (x2.2.1, v5.2)) x2.2.2).bind fun v6 =>
    some (.inl (((x2.1.set (Int.toNat x2.2.2) (x2.2.1, v5.2)).set (Int.toNat x2.2.2) (v6.1, (w64 (x2.2.1 + 1)))), (w64 ((w64 (x2.2.1 + 1)) + 1)), (w64 (x2.2.2 + 1))))
  else
    some (.inr (x2.1, x2.2.1))
noncomputable def laws_markRatS (a0 : (List (Int × Int))) (a1 : Int) : Option (Int × (List (Int × Int))) :=
  (loopO laws_markRatS_b1 (a0, a1, 0)).bind fun y3 => laws_markRatS_k1 y3
noncomputable def laws_heldRatS_k1  (x1 : Int) : Option Int :=
  some x1
noncomputable def laws_heldRatS_b1 (a0 : (List (Int × Int))) (x2 : (Int × Int)) : Option ((Int × Int) ⊕ (Int ⊕ Int)) :=
  if (decide (x2.2 < (a0.length : Int))) = true then
    (idxO a0 x2.2).bind fun v5 =>
    if (v5.1 != x2.1) = true then
      some (.inr (.inl (-1)))
    else
      if (v5.2 != (w64 (x2.1 + 1))) = true then
        some (.inr (.inl (-1)))
      else
        some (.inl ((w64 ((w64 (x2.1 + 1)) + 1)), (w64 (x2.2 + 1))))
  else
    some (.inr (.inr x2.1))
noncomputable def laws_heldRatS (a0 : (List (Int × Int))) (a1 : Int) : Option Int :=
  (loopO (laws_heldRatS_b1 a0) (a1, 0)).bind fun y3 => (Sum.elim (fun p => some p) (fun p => laws_heldRatS_k1 p)) y3
noncomputable def impl_GrowthBounds (a0 : (List (List Int))) (a1 : Int) : Option ((Int × Int) × (Int × Int) × Bool) :=
  (impl_WalkVector a0 a1).bind fun v1 =>
  if (!v1.2) = true then
    some ((0, 0), (0, 0), false)
  else
    (impl_RatioBounds a0 v1.1).bind fun v3 =>
    some v3
noncomputable def spec_GrowthBounds (a0 : (List (List Int))) (a1 : Int) : Option ((Int × Int) × (Int × Int) × Bool) :=
  (spec_grGood a0).bind fun v1 =>
  (if (!v1) = true then
      some true
    else
      (spec_gwSteps a1).bind fun v2 =>
      some (!v2)).bind fun w3 =>
  if w3 = true then
    some ((0, 0), (0, 0), false)
  else
    (spec_gwWalks a0 a1).bind fun v5 =>
    if (!v5.2) = true then
      some ((0, 0), (0, 0), false)
    else
      (spec_gwBounds a0 v5.1).bind fun v7 =>
      some (v7.1, v7.2, true)
noncomputable def impl_BestGrowth (a0 : (List (List Int))) : Option ((Int × Int) × (Int × Int) × Int × Bool) :=
  (impl_isGraph a0).bind fun v1 =>
  if (!v1) = true then
    some ((0, 0), (0, 0), 0, false)
  else
    (impl_walkVectors a0 20).bind fun v3 =>
    (idxO v3 (w64 ((v3.length : Int) - 1))).bind fun v4 =>
    (impl_ratioBounds a0 v4).bind fun v5 =>
    some (v5.1, v5.2, (w64 ((v3.length : Int) - 1)), true)
noncomputable def spec_gwBest_k1 (a0 : (List (List Int))) (x2 : (Int × (List Int))) : Option ((Int × Int) × (Int × Int) × Int) :=
  (spec_gwBounds a0 x2.2).bind fun v3 =>
  some (v3.1, v3.2, x2.1)
noncomputable def spec_gwBest_b1 (a0 : (List (List Int))) (x4 : (Int × (List Int))) : Option ((Int × (List Int)) ⊕ (Int × (List Int))) :=
  if (decide (x4.1 < 20)) = true then
    (spec_gwWalks a0 (w64 (x4.1 + 1))).bind fun v7 =>
    if (!v7.2) = true then
      some (.inr x4)
    else
      some (.inl ((w64 (x4.1 + 1)), v7.1))
  else
    some (.inr x4)
noncomputable def spec_gwBest (a0 : (List (List Int))) : Option ((Int × Int) × (Int × Int) × Int) :=
  (spec_gwWalks a0 0).bind fun v1 =>
  (loopO (spec_gwBest_b1 a0) (0, v1.1)).bind fun y5 => spec_gwBest_k1 a0 y5
noncomputable def spec_BestGrowth (a0 : (List (List Int))) : Option ((Int × Int) × (Int × Int) × Int × Bool) :=
  (spec_grGood a0).bind fun v1 =>
  if (!v1) = true then
    some ((0, 0), (0, 0), 0, false)
  else
    (spec_gwBest a0).bind fun v3 =>
    some (v3.1, v3.2.1, v3.2.2, true)
noncomputable def impl_IsGrowthBound (a0 : (List (List Int))) (a1 : (List Int)) (a2 : (Int × Int)) (a3 : (Int × Int)) : Option (Bool × Bool) :=
  (impl_isVectorOf a0 a1).bind fun v1 =>
  (if (!v1) = true then
      some true
    else
      (impl_areRats ([a2, a3])).bind fun v2 =>
      some (!v2)).bind fun w3 =>
  if w3 = true then
    some (false, false)
  else
    (impl_ratioBounds a0 a1).bind fun v5 =>
    (impl_less v5.1 a2).bind fun v6 =>
    (if (!v6) = true then
        (impl_less a3 v5.2).bind fun v7 =>
        some (!v7)
      else
        some false).bind fun w8 =>
    some (w8, true)
noncomputable def spec_gwWithin (a0 : (List (List Int))) (a1 : (List Int)) (a2 : (Int × Int)) (a3 : (Int × Int)) : Option Bool :=
  (spec_gwBounds a0 a1).bind fun v1 =>
  (spec_raCmp a2 v1.1).bind fun v2 =>
  (if (decide (v2 ≤ 0)) = true then
      (spec_raCmp v1.2 a3).bind fun v3 =>
      some (decide (v3 ≤ 0))
    else
      some false).bind fun w4 =>
  some w4
noncomputable def spec_IsGrowthBound (a0 : (List (List Int))) (a1 : (List Int)) (a2 : (Int × Int)) (a3 : (Int × Int)) : Option (Bool × Bool) :=
  (spec_gwAsked a0 a1).bind fun v1 =>
  (if (!v1) = true then
      some true
    else
      (spec_raGood a2).bind fun v2 =>
      if (!v2) = true then
        some true
      else
        (spec_raGood a3).bind fun v3 =>
        some (!v3)).bind fun w4 =>
  if w4 = true then
    some (false, false)
  else
    (spec_gwWithin a0 a1 a2 a3).bind fun v6 =>
    some (v6, true)
noncomputable def impl_GrowsFaster (a0 : (List (List Int))) (a1 : (List (List Int))) : Option (Bool × Bool) :=
  (impl_BestGrowth a0).bind fun v1 =>
  (impl_BestGrowth a1).bind fun v2 =>
  if ((!v1.2.2.2) || (!v2.2.2.2)) = true then
    some (false, false)
  else
    (impl_less v2.2.1 v1.1).bind fun v4 =>
    some (v4, true)
noncomputable def spec_GrowsFaster (a0 : (List (List Int))) (a1 : (List (List Int))) : Option (Bool × Bool) :=
  (spec_grGood a0).bind fun v1 =>
  (if (!v1) = true then
      some true
    else
      (spec_grGood a1).bind fun v2 =>
      some (!v2)).bind fun w3 =>
  if w3 = true then
    some (false, false)
  else
    (spec_gwBest a0).bind fun v5 =>
    (spec_gwBest a1).bind fun v6 =>
    (spec_raCmp v5.1 v6.2.1).bind fun v7 =>
    some ((decide (v7 > 0)), true)
noncomputable def laws_FnExactIsGrowthBound (a0 : (List (List Int))) (a1 : (List Int)) (a2 : (Int × Int)) (a3 : (Int × Int)) : Option Bool :=
  if (decide ((a1.length : Int) > 1048576)) = true then
    some true
  else
    (laws_szIntSS a0 1048576).bind fun v2 =>
    if (decide (v2 < 0)) = true then
      some true
    else
      (laws_toIntSS a0).bind fun v4 =>
      (laws_toIntS a1).bind fun v5 =>
      (laws_toRat a2).bind fun v6 =>
      (laws_toRat a3).bind fun v7 =>
      (spec_IsGrowthBound v4 v5 v6 v7).bind fun v8 =>
      (laws_toIntSS a0).bind fun v9 =>
      (laws_toIntS a1).bind fun v10 =>
      (laws_toRat a2).bind fun v11 =>
      (laws_toRat a3).bind fun v12 =>
      (impl_IsGrowthBound v9 v10 v11 v12).bind fun v13 =>
      if ((!(v13.1 == v8.1)) || (!(v13.2 == v8.2))) = true then
        some false
      else
        (laws_toIntSS a0).bind fun v15 =>
        (laws_eqIntSS v9 v15).bind fun v16 =>
        if (!v16) = true then
          some false
        else
          (laws_toIntS a1).bind fun v18 =>
          (laws_eqIntS v10 v18).bind fun v19 =>
          if (!v19) = true then
            some false
          else
            some true
noncomputable def laws_FnExactBestGrowth (a0 : (List (List Int))) : Option Bool :=
  (laws_szIntSS a0 1048576).bind fun v1 =>
  if (decide (v1 < 0)) = true then
    some true
  else
    (laws_toIntSS a0).bind fun v3 =>
    (spec_BestGrowth v3).bind fun v4 =>
    (laws_toIntSS a0).bind fun v5 =>
    (impl_BestGrowth v5).bind fun v6 =>
    (laws_eqRat v6.1 v4.1).bind fun v7 =>
    (if (!v7) = true then
        some true
      else
        (laws_eqRat v6.2.1 v4.2.1).bind fun v8 =>
        if (!v8) = true then
          some true
        else
          if (v6.2.2.1 != v4.2.2.1) = true then
            some true
          else
            some (!(v6.2.2.2 == v4.2.2.2))).bind fun w9 =>
    if w9 = true then
      some false
    else
      (laws_toIntSS a0).bind fun v11 =>
      (laws_eqIntSS v5 v11).bind fun v12 =>
      if (!v12) = true then
        some false
      else
        some true
noncomputable def laws_FnExactGrowsFaster (a0 : (List (List Int))) (a1 : (List (List Int))) : Option Bool :=
  (laws_szIntSS a0 1048576).bind fun v1 =>
  if (decide (v1 < 0)) = true then
    some true
  else
    (laws_szIntSS a1 v1).bind fun v3 =>
    if (decide (v3 < 0)) = true then
      some true
    else
      (laws_toIntSS a0).bind fun v5 =>
      (laws_toIntSS a1).bind fun v6 =>
      (spec_GrowsFaster v5 v6).bind fun v7 =>
      (laws_toIntSS a0).bind fun v8 =>
      (laws_toIntSS a1).bind fun v9 =>
      (impl_GrowsFaster v8 v9).bind fun v10 =>
      if ((!(v10.1 == v7.1)) || (!(v10.2 == v7.2))) = true then
        some false
      else
        (laws_toIntSS a0).bind fun v12 =>
        (laws_eqIntSS v8 v12).bind fun v13 =>
        if (!v13) = true then
          some false
        else
          (laws_toIntSS a1).bind fun v15 =>
          (laws_eqIntSS v9 v15).bind fun v16 =>
          if (!v16) = true then
            some false
          else
            some true
noncomputable def laws_FnExactGrowthBounds (a0 : (List (List Int))) (a1 : Int) : Option Bool :=
  (laws_szIntSS a0 1048576).bind fun v1 =>
  if (decide (v1 < 0)) = true then
    some true
  else
    (laws_toIntSS a0).bind fun v3 =>
    (spec_GrowthBounds v3 a1).bind fun v4 =>
    (laws_toIntSS a0).bind fun v5 =>
    (impl_GrowthBounds v5 a1).bind fun v6 =>
    (laws_eqRat v6.1 v4.1).bind fun v7 =>
    (if (!v7) = true then
        some true
      else
        (laws_eqRat v6.2.1 v4.2.1).bind fun v8 =>
        if (!v8) = true then
          some true
        else
          some (!(v6.2.2 == v4.2.2))).bind fun w9 =>
    if w9 = true then
      some false
    else
      (laws_toIntSS a0).bind fun v11 =>
      (laws_eqIntSS v5 v11).bind fun v12 =>
      if (!v12) = true then
        some false
      else
        some true
end Go.PV
