/-
  Plain definitions of what the functions answer.
  Conditions: none.
-/
import Derived.Test.YtgamijfefbhklaaPvCx
set_option linter.all false
namespace Go.PV
noncomputable def laws_toIntS_k1  (x2 : (List Int)) : Option (List Int) :=
  some x2
noncomputable def laws_toIntS_b1 (a0 : (List Int)) (x3 : ((List Int) × Int)) : Option (((List Int) × Int) ⊕ (List Int)) :=
  if (decide (x3.2 < (a0.length : Int))) = true then
    (idxO a0 x3.2).bind fun v6 =>
    (idxO x3.1 x3.2).bind fun v7 =>
    some (.inl ((x3.1.set (Int.toNat x3.2) v6), (w64 (x3.2 + 1))))
  else
    some (.inr x3.1)
noncomputable def laws_toIntS (a0 : (List Int)) : Option (List Int) :=
  (guardO (0 ≤ (a0.length : Int) ∧ (a0.length : Int) ≤ 1099511627776)).bind fun u1 =>
  (loopO (laws_toIntS_b1 a0) ((List.replicate (Int.toNat (a0.length : Int)) (0 : Int)), 0)).bind fun y4 => laws_toIntS_k1 y4
noncomputable def spec_l1In (a0 : Int) (a1 : Int) (a2 : Int) : Option Bool :=
  some ((decide (a0 ≥ a1)) && (decide (a0 ≤ a2)))
noncomputable def spec_l1All_k1  (x1 : Unit) : Option Bool :=
  some true
noncomputable def spec_l1All_b1 (a0 : (List Int)) (a1 : Int) (a2 : Int) (x2 : Int) : Option (Int ⊕ (Bool ⊕ Unit)) :=
  if (decide (x2 < (a0.length : Int))) = true then
    (idxO a0 x2).bind fun v5 =>
    (spec_l1In v5 a1 a2).bind fun v6 =>
    if (!v6) = true then
      some (.inr (.inl false))
    else
      some (.inl (w64 (x2 + 1)))
  else
    some (.inr (.inr ()))
noncomputable def spec_l1All (a0 : (List Int)) (a1 : Int) (a2 : Int) : Option Bool :=
  (loopO (spec_l1All_b1 a0 a1 a2) 0).bind fun y3 => (Sum.elim (fun p => some p) (fun p => spec_l1All_k1 p)) y3
noncomputable def spec_gwVector (a0 : (List Int)) : Option Bool :=
  (spec_l1In (a0.length : Int) 1 8).bind fun v1 =>
  (if v1 = true then
      (spec_l1All a0 1 1000000).bind fun v2 =>
      some v2
    else
      some false).bind fun w3 =>
  some w3
noncomputable def spec_IsVector (a0 : (List Int)) : Option Bool :=
  (spec_gwVector a0).bind fun v1 =>
  some v1
noncomputable def impl_within (a0 : Int) (a1 : Int) (a2 : Int) : Option Bool :=
  some ((decide (a1 ≤ a0)) && (decide (a0 ≤ a2)))
noncomputable def slices_IndexFunc_Lint_int_k1  (x1 : Unit) : Option Int :=
  some (-1)
noncomputable def slices_IndexFunc_Lint_int_b1 (a0 : (List Int)) (a1 : Int → Option Bool) (x2 : Int) : Option (Int ⊕ (Int ⊕ Unit)) :=
  if (decide (x2 < (a0.length : Int))) = true then
    (idxO a0 x2).bind fun v5 =>
    (a1 v5).bind fun v6 =>
    if v6 = true then
      some (.inr (.inl x2))
    else
      some (.inl (w64 (x2 + 1)))
  else
    some (.inr (.inr ()))
noncomputable def slices_IndexFunc_Lint_int (a0 : (List Int)) (a1 : (Int → Option Bool)) : Option Int :=
  (loopO (slices_IndexFunc_Lint_int_b1 a0 a1) 0).bind fun y3 => (Sum.elim (fun p => some p) (fun p => slices_IndexFunc_Lint_int_k1 p)) y3
noncomputable def slices_ContainsFunc_Lint_int (a0 : (List Int)) (a1 : (Int → Option Bool)) : Option Bool :=
  (slices_IndexFunc_Lint_int a0 a1).bind fun v1 =>
  some (decide (v1 ≥ 0))
noncomputable def impl_isVector_1 (a0 : Int) : Option Bool :=
  (impl_within a0 1 1000000).bind fun v1 =>
  some (!v1)
noncomputable def impl_isVector (a0 : (List Int)) : Option Bool :=
  (impl_within (a0.length : Int) 1 8).bind fun v1 =>
  (if v1 = true then
      (slices_ContainsFunc_Lint_int a0 (fun x0 => impl_isVector_1 x0)).bind fun v2 =>
      some (!v2)
    else
      some false).bind fun w3 =>
  some w3
noncomputable def impl_IsVector (a0 : (List Int)) : Option Bool :=
  (impl_isVector a0).bind fun v1 =>
  some v1
noncomputable def laws_eqIntS_k1  (x2 : Unit) : Option Bool :=
  some true
noncomputable def laws_eqIntS_b1 (a0 : (List Int)) (a1 : (List Int)) (x3 : Int) : Option (Int ⊕ (Bool ⊕ Unit)) :=
  if (decide (x3 < (a0.length : Int))) = true then
    (idxO a0 x3).bind fun v6 =>
    (idxO a1 x3).bind fun v7 =>
    if (v6 != v7) = true then
      some (.inr (.inl false))
    else
      some (.inl (w64 (x3 + 1)))
  else
    some (.inr (.inr ()))
noncomputable def laws_eqIntS (a0 : (List Int)) (a1 : (List Int)) : Option Bool :=
  if ((a0.length : Int) != (a1.length : Int)) = true then
    some false
  else
    (loopO (laws_eqIntS_b1 a0 a1) 0).bind fun y4 => (Sum.elim (fun p => some p) (fun p => laws_eqIntS_k1 p)) y4
noncomputable def laws_FnExactIsVector (a0 : (List Int)) : Option Bool :=
  if (decide ((a0.length : Int) > 1048576)) = true then
    some true
  else
    (laws_toIntS a0).bind fun v2 =>
    (spec_IsVector v2).bind fun v3 =>
    (laws_toIntS a0).bind fun v4 =>
    (impl_IsVector v4).bind fun v5 =>
    if (!(v5 == v3)) = true then
      some false
    else
      (laws_toIntS a0).bind fun v7 =>
      (laws_eqIntS v4 v7).bind fun v8 =>
      if (!v8) = true then
        some false
      else
        some true
noncomputable def laws_toRat (a0 : (Int × Int)) : Option (Int × Int) :=
  some a0
noncomputable def spec_l1Most (a0 : Int) (a1 : Int) : Option Int :=
  if (decide (a0 > a1)) = true then
    some a0
  else
    some a1
noncomputable def spec_l1Abs (a0 : Int) : Option Int :=
  (spec_l1Most a0 (w64 (0 - a0))).bind fun v1 =>
  some v1
noncomputable def spec_raCommon_k1  (x1 : Int) : Option Int :=
  some x1
noncomputable def spec_raCommon_b1  (x2 : (Int × Int)) : Option ((Int × Int) ⊕ Int) :=
  if (decide (x2.2 > 0)) = true then
    (guardO (x2.2 ≠ 0)).bind fun u5 =>
    some (.inl (x2.2, (Int.tmod x2.1 x2.2)))
  else
    some (.inr x2.1)
noncomputable def spec_raCommon (a0 : Int) (a1 : Int) : Option Int :=
  (loopO spec_raCommon_b1 (a0, a1)).bind fun y3 => spec_raCommon_k1 y3
noncomputable def spec_raGood (a0 : (Int × Int)) : Option Bool :=
  (spec_l1In a0.2 1 1000000000).bind fun v1 =>
  (if v1 = true then
      (spec_l1In a0.1 (-1000000000) 1000000000).bind fun v2 =>
      if v2 = true then
        (spec_l1Abs a0.1).bind fun v3 =>
        (spec_raCommon v3 a0.2).bind fun v4 =>
        some (v4 == 1)
      else
        some false
    else
      some false).bind fun w5 =>
  some w5
noncomputable def spec_liNear (a0 : (Int × Int)) : Option Bool :=
  (spec_raGood a0).bind fun v1 =>
  (if v1 = true then
      (spec_l1In a0.1 (w64 ((-1000) * a0.2)) (w64 (1000 * a0.2))).bind fun v2 =>
      some v2
    else
      some false).bind fun w3 =>
  some w3
noncomputable def spec_raDown (a0 : Int) (a1 : Int) : Option Int :=
  if (a1 == 0) = true then
    some 0
  else
    (guardO (a1 ≠ 0)).bind fun u2 =>
    if (decide ((Int.tmod a0 a1) < 0)) = true then
      some (w64 ((w64 (Int.tdiv a0 a1)) - 1))
    else
      some (w64 (Int.tdiv a0 a1))
noncomputable def spec_raFloor (a0 : (Int × Int)) : Option Int :=
  (spec_raDown a0.1 a0.2).bind fun v1 =>
  some v1
noncomputable def spec_liPlus (a0 : (Int × Int)) (a1 : Int) : Option (Int × Int) :=
  some ((w64 (a0.1 + (w64 (a1 * a0.2)))), a0.2)
noncomputable def spec_ReduceRat (a0 : (Int × Int)) : Option ((Int × Int) × Bool) :=
  (spec_liNear a0).bind fun v1 =>
  if (!v1) = true then
    some ((0, 0), false)
  else
    (spec_raFloor a0).bind fun v3 =>
    (spec_liPlus a0 (w64 (0 - v3))).bind fun v4 =>
    some (v4, true)
noncomputable def impl_abs (a0 : Int) : Option Int :=
  if (decide (a0 < 0)) = true then
    some (w64 (0 - a0))
  else
    some a0
noncomputable def impl_greatestDivisor_k1  (x3 : Int) : Option Int :=
  some x3
noncomputable def impl_greatestDivisor_b1  (x4 : (Int × Int)) : Option ((Int × Int) ⊕ Int) :=
  if (x4.2 != 0) = true then
    (guardO (x4.2 ≠ 0)).bind fun u7 =>
    some (.inl (x4.2, (Int.tmod x4.1 x4.2)))
  else
    some (.inr x4.1)
noncomputable def impl_greatestDivisor (a0 : Int) (a1 : Int) : Option Int :=
  (impl_abs a0).bind fun v1 =>
  (impl_abs a1).bind fun v2 =>
  (loopO impl_greatestDivisor_b1 (v1, v2)).bind fun y5 => impl_greatestDivisor_k1 y5
noncomputable def impl_isRat (a0 : (Int × Int)) : Option Bool :=
  (impl_within a0.2 1 1000000000).bind fun v1 =>
  (if v1 = true then
      (impl_within a0.1 (-1000000000) 1000000000).bind fun v2 =>
      if v2 = true then
        (impl_greatestDivisor a0.1 a0.2).bind fun v3 =>
        some (v3 == 1)
      else
        some false
    else
      some false).bind fun w4 =>
  some w4
noncomputable def impl_whole (a0 : Int) : Option (Int × Int) :=
  some (a0, 1)
noncomputable def impl_compare (a0 : (Int × Int)) (a1 : (Int × Int)) : Option Int :=
  if (decide ((w64 (a0.1 * a1.2)) < (w64 (a1.1 * a0.2)))) = true then
    some (-1)
  else
    if (decide ((w64 (a0.1 * a1.2)) > (w64 (a1.1 * a0.2)))) = true then
      some 1
    else
      some 0
noncomputable def impl_less (a0 : (Int × Int)) (a1 : (Int × Int)) : Option Bool :=
  (impl_compare a0 a1).bind fun v1 =>
  some (decide (v1 < 0))
noncomputable def impl_isFar (a0 : (Int × Int)) : Option Bool :=
  (impl_isRat a0).bind fun v1 =>
  (if v1 = true then
      (impl_whole (-1000)).bind fun v2 =>
      (impl_less a0 v2).bind fun v3 =>
      if (!v3) = true then
        (impl_whole 1000).bind fun v4 =>
        (impl_less v4 a0).bind fun v5 =>
        some (!v5)
      else
        some false
    else
      some false).bind fun w6 =>
  some w6
noncomputable def impl_floorDivide (a0 : Int) (a1 : Int) : Option Int :=
  (guardO (a1 ≠ 0)).bind fun u1 =>
  if (decide ((Int.tmod a0 a1) < 0)) = true then
    some (w64 ((w64 (Int.tdiv a0 a1)) - 1))
  else
    some (w64 (Int.tdiv a0 a1))
noncomputable def impl_floor (a0 : (Int × Int)) : Option Int :=
  (impl_floorDivide a0.1 a0.2).bind fun v1 =>
  some v1
noncomputable def impl_negated (a0 : (Int × Int)) : Option (Int × Int) :=
  some ((w64 (0 - a0.1)), a0.2)
noncomputable def impl_areRats_k1  (x1 : Unit) : Option Bool :=
  some true
noncomputable def impl_areRats_b1 (a0 : (List (Int × Int))) (x2 : Int) : Option (Int ⊕ (Bool ⊕ Unit)) :=
  if (decide (x2 < (a0.length : Int))) = true then
    (idxO a0 x2).bind fun v5 =>
    (impl_isRat v5).bind fun v6 =>
    if (!v6) = true then
      some (.inr (.inl false))
    else
      some (.inl (w64 (x2 + 1)))
  else
    some (.inr (.inr ()))
noncomputable def impl_areRats (a0 : (List (Int × Int))) : Option Bool :=
  (loopO (impl_areRats_b1 a0) 0).bind fun y3 => (Sum.elim (fun p => some p) (fun p => impl_areRats_k1 p)) y3
noncomputable def impl_lowest_k1 (a0 : Int) (a1 : Int) (x2 : Int) : Option ((Int × Int) × Bool) :=
  (guardO (x2 ≠ 0)).bind fun u3 =>
  (impl_isRat ((w64 (Int.tdiv a0 x2)), (w64 (Int.tdiv a1 x2)))).bind fun v4 =>
  if (!v4) = true then
    some ((0, 0), false)
  else
    some (((w64 (Int.tdiv a0 x2)), (w64 (Int.tdiv a1 x2))), true)
noncomputable def impl_lowest (a0 : Int) (a1 : Int) : Option ((Int × Int) × Bool) :=
  (impl_greatestDivisor a0 a1).bind fun v1 =>
  if (decide (a1 < 0)) = true then
    impl_lowest_k1 a0 a1 (w64 (0 - v1))
  else
    impl_lowest_k1 a0 a1 v1
noncomputable def impl_AddRats (a0 : (Int × Int)) (a1 : (Int × Int)) : Option ((Int × Int) × Bool) :=
  (impl_areRats ([a0, a1])).bind fun v1 =>
  if (!v1) = true then
    some ((0, 0), false)
  else
    (impl_lowest (w64 ((w64 (a0.1 * a1.2)) + (w64 (a1.1 * a0.2)))) (w64 (a0.2 * a1.2))).bind fun v3 =>
    some v3
noncomputable def impl_SubtractRats (a0 : (Int × Int)) (a1 : (Int × Int)) : Option ((Int × Int) × Bool) :=
  (impl_negated a1).bind fun v1 =>
  (impl_AddRats a0 v1).bind fun v2 =>
  some v2
noncomputable def impl_ReduceRat (a0 : (Int × Int)) : Option ((Int × Int) × Bool) :=
  (impl_isFar a0).bind fun v1 =>
  if (!v1) = true then
    some ((0, 0), false)
  else
    (impl_floor a0).bind fun v3 =>
    (impl_whole v3).bind fun v4 =>
    (impl_SubtractRats a0 v4).bind fun v5 =>
    some v5
noncomputable def laws_eqRat (a0 : (Int × Int)) (a1 : (Int × Int)) : Option Bool :=
  if (a0.1 != a1.1) = true then
    some false
  else
    if (a0.2 != a1.2) = true then
      some false
    else
      some true
noncomputable def laws_FnExactReduceRat (a0 : (Int × Int)) : Option Bool :=
  (laws_toRat a0).bind fun v1 =>
  (spec_ReduceRat v1).bind fun v2 =>
  (laws_toRat a0).bind fun v3 =>
  (impl_ReduceRat v3).bind fun v4 =>
  (laws_eqRat v4.1 v2.1).bind fun v5 =>
  if ((!v5) || (!(v4.2 == v2.2))) = true then
    some false
  else
    some true
noncomputable def laws_szIntS (a0 : (List Int)) (a1 : Int) : Option Int :=
  if (decide ((w64 (a1 - (a0.length : Int))) < 0)) = true then
    some (-1)
  else
    some (w64 (a1 - (a0.length : Int)))
noncomputable def laws_szIntSS_k1  (x2 : Int) : Option Int :=
  some x2
noncomputable def laws_szIntSS_b1 (a0 : (List (List Int))) (x3 : (Int × Int)) : Option ((Int × Int) ⊕ (Int ⊕ Int)) :=
  if (decide (x3.2 < (a0.length : Int))) = true then
    (idxO a0 x3.2).bind fun v6 =>
    (laws_szIntS v6 x3.1).bind fun v7 =>
    if (decide (v7 < 0)) = true then
      some (.inr (.inl (-1)))
    else
      some (.inl (v7, (w64 (x3.2 + 1))))
  else
    some (.inr (.inr x3.1))
noncomputable def laws_szIntSS (a0 : (List (List Int))) (a1 : Int) : Option Int :=
  if (decide ((w64 (a1 - (a0.length : Int))) < 0)) = true then
    some (-1)
  else
    (loopO (laws_szIntSS_b1 a0) ((w64 (a1 - (a0.length : Int))), 0)).bind fun y4 => (Sum.elim (fun p => some p) (fun p => laws_szIntSS_k1 p)) y4
noncomputable def laws_toIntSS_k1  (x2 : (List (List Int))) : Option (List (List Int)) :=
  some x2
noncomputable def laws_toIntSS_b1 (a0 : (List (List Int))) (x3 : ((List (List Int)) × Int)) : Option (((List (List Int)) × Int) ⊕ (List (List Int))) :=
  if (decide (x3.2 < (a0.length : Int))) = true then
    (idxO a0 x3.2).bind fun v6 =>
    (laws_toIntS v6).bind fun v7 =>
    (idxO x3.1 x3.2).bind fun v8 =>
    some (.inl ((x3.1.set (Int.toNat x3.2) v7), (w64 (x3.2 + 1))))
  else
    some (.inr x3.1)
noncomputable def laws_toIntSS (a0 : (List (List Int))) : Option (List (List Int)) :=
  (guardO (0 ≤ (a0.length : Int) ∧ (a0.length : Int) ≤ 1099511627776)).bind fun u1 =>
  (loopO (laws_toIntSS_b1 a0) ((List.replicate (Int.toNat (a0.length : Int)) ([] : (List Int))), 0)).bind fun y4 => laws_toIntSS_k1 y4
noncomputable def spec_grGood_k1  (x3 : Unit) : Option Bool :=
  some true
noncomputable def spec_grGood_b1 (a0 : (List (List Int))) (x4 : Int) : Option (Int ⊕ (Bool ⊕ Unit)) :=
  if (decide (x4 < (a0.length : Int))) = true then
    (idxO a0 x4).bind fun v7 =>
    (if ((v7.length : Int) != (a0.length : Int)) = true then
        some true
      else
        (spec_l1All v7 0 9).bind fun v8 =>
        some (!v8)).bind fun w9 =>
    if w9 = true then
      some (.inr (.inl false))
    else
      some (.inl (w64 (x4 + 1)))
  else
    some (.inr (.inr ()))
noncomputable def spec_grGood (a0 : (List (List Int))) : Option Bool :=
  (spec_l1In (a0.length : Int) 1 8).bind fun v1 =>
  if (!v1) = true then
    some false
  else
    (loopO (spec_grGood_b1 a0) 0).bind fun y5 => (Sum.elim (fun p => some p) (fun p => spec_grGood_k1 p)) y5
noncomputable def spec_gwAsked (a0 : (List (List Int))) (a1 : (List Int)) : Option Bool :=
  (spec_grGood a0).bind fun v1 =>
  (if v1 = true then
      (spec_gwVector a1).bind fun v2 =>
      if v2 = true then
        some ((a1.length : Int) == (a0.length : Int))
      else
        some false
    else
      some false).bind fun w3 =>
  some w3
noncomputable def spec_gwTimes_k1  (x1 : (List Int)) : Option (List Int) :=
  some x1
noncomputable def spec_gwTimes_k2 (x2 : ((List Int) × Int)) (x5 : (List Int)) : Option (((List Int) × Int) ⊕ (List Int)) :=
  some (.inl (x5, (w64 (x2.2 + 1))))
noncomputable def spec_gwTimes_k3 (x2 : ((List Int) × Int)) (x7 : Int) : Option (((List Int) × Int) ⊕ (List Int)) :=
  (guardO (x2.1.length + ([x7]).length ≤ 1099511627776)).bind fun u8 =>
  spec_gwTimes_k2 x2 (x2.1 ++ [x7])
noncomputable def spec_gwTimes_b2 (a1 : (List Int)) (v6 : (List Int)) (x9 : (Int × Int)) : Option ((Int × Int) ⊕ Int) :=
  if (decide (x9.2 < (v6.length : Int))) = true then
    (idxO v6 x9.2).bind fun v12 =>
    (idxO a1 x9.2).bind fun v13 =>
    some (.inl ((w64 (x9.1 + (w64 (v12 * v13)))), (w64 (x9.2 + 1))))
  else
    some (.inr x9.1)
noncomputable def spec_gwTimes_b1 (a0 : (List (List Int))) (a1 : (List Int)) (x2 : ((List Int) × Int)) : Option (((List Int) × Int) ⊕ (List Int)) :=
  if (decide (x2.2 < (a0.length : Int))) = true then
    (idxO a0 x2.2).bind fun v6 =>
    (loopO (spec_gwTimes_b2 a1 v6) (0, 0)).bind fun y10 => spec_gwTimes_k3 x2 y10
  else
    some (.inr x2.1)
noncomputable def spec_gwTimes (a0 : (List (List Int))) (a1 : (List Int)) : Option (List Int) :=
  (loopO (spec_gwTimes_b1 a0 a1) ([], 0)).bind fun y3 => spec_gwTimes_k1 y3
noncomputable def slices_IndexFunc_LLint_Lint_k1  (x1 : Unit) : Option Int :=
  some (-1)
noncomputable def slices_IndexFunc_LLint_Lint_b1 (a0 : (List (List Int))) (a1 : (List Int) → Option Bool) (x2 : Int) : Option (Int ⊕ (Int ⊕ Unit)) :=
  if (decide (x2 < (a0.length : Int))) = true then
    (idxO a0 x2).bind fun v5 =>
    (a1 v5).bind fun v6 =>
    if v6 = true then
      some (.inr (.inl x2))
    else
      some (.inl (w64 (x2 + 1)))
  else
    some (.inr (.inr ()))
noncomputable def slices_IndexFunc_LLint_Lint (a0 : (List (List Int))) (a1 : ((List Int) → Option Bool)) : Option Int :=
  (loopO (slices_IndexFunc_LLint_Lint_b1 a0 a1) 0).bind fun y3 => (Sum.elim (fun p => some p) (fun p => slices_IndexFunc_LLint_Lint_k1 p)) y3
noncomputable def slices_ContainsFunc_LLint_Lint (a0 : (List (List Int))) (a1 : ((List Int) → Option Bool)) : Option Bool :=
  (slices_IndexFunc_LLint_Lint a0 a1).bind fun v1 =>
  some (decide (v1 ≥ 0))
noncomputable def impl_isGraph_1_1 (a0 : Int) : Option Bool :=
  (impl_within a0 0 9).bind fun v1 =>
  some (!v1)
noncomputable def impl_isGraph_1 (a0 : (List Int)) (c0 : (List (List Int))) : Option Bool :=
  (if ((a0.length : Int) != (c0.length : Int)) = true then
      some true
    else
      (slices_ContainsFunc_Lint_int a0 (fun x0 => impl_isGraph_1_1 x0)).bind fun v1 =>
      some v1).bind fun w2 =>
  some w2
noncomputable def impl_isGraph (a0 : (List (List Int))) : Option Bool :=
  (impl_within (a0.length : Int) 1 8).bind fun v1 =>
  (if v1 = true then
      (slices_ContainsFunc_LLint_Lint a0 (fun x0 => impl_isGraph_1 x0 a0)).bind fun v2 =>
      some (!v2)
    else
      some false).bind fun w3 =>
  some w3
noncomputable def impl_isVectorOf (a0 : (List (List Int))) (a1 : (List Int)) : Option Bool :=
  (impl_isGraph a0).bind fun v1 =>
  (if v1 = true then
      (impl_isVector a1).bind fun v2 =>
      if v2 = true then
        some ((a0.length : Int) == (a1.length : Int))
      else
        some false
    else
      some false).bind fun w3 =>
  some w3
noncomputable def impl_times_k1  (x2 : (List Int)) : Option (List Int) :=
  some x2
noncomputable def impl_times_k2 (x3 : ((List Int) × Int)) (x6 : (List Int)) : Option (((List Int) × Int) ⊕ (List Int)) :=
  some (.inl (x6, (w64 (x3.2 + 1))))
noncomputable def impl_times_b2 (a1 : (List Int)) (x3 : ((List Int) × Int)) (v7 : (List Int)) (x8 : ((List Int) × Int)) : Option (((List Int) × Int) ⊕ (List Int)) :=
  if (decide (x8.2 < (v7.length : Int))) = true then
    (idxO v7 x8.2).bind fun v11 =>
    (idxO x8.1 x3.2).bind fun v12 =>
    (idxO a1 x8.2).bind fun v13 =>
    some (.inl ((x8.1.set (Int.toNat x3.2) (w64 (v12 + (w64 (v11 * v13))))), (w64 (x8.2 + 1))))
  else
    some (.inr x8.1)
noncomputable def impl_times_b1 (a0 : (List (List Int))) (a1 : (List Int)) (x3 : ((List Int) × Int)) : Option (((List Int) × Int) ⊕ (List Int)) :=
  if (decide (x3.2 < (a0.length : Int))) = true then
    (idxO a0 x3.2).bind fun v7 =>
    (loopO (impl_times_b2 a1 x3 v7) (x3.1, 0)).bind fun y9 => impl_times_k2 x3 y9
  else
    some (.inr x3.1)
noncomputable def impl_times (a0 : (List (List Int))) (a1 : (List Int)) : Option (List Int) :=
  (guardO (0 ≤ (a0.length : Int) ∧ (a0.length : Int) ≤ 1099511627776)).bind fun u1 =>
  (loopO (impl_times_b1 a0 a1) ((List.replicate (Int.toNat (a0.length : Int)) (0 : Int)), 0)).bind fun y4 => impl_times_k1 y4
noncomputable def laws_eqIntSS_k1  (x2 : Unit) : Option Bool :=
  some true
noncomputable def laws_eqIntSS_b1 (a0 : (List (List Int))) (a1 : (List (List Int))) (x3 : Int) : Option (Int ⊕ (Bool ⊕ Unit)) :=
  if (decide (x3 < (a0.length : Int))) = true then
    (idxO a0 x3).bind fun v6 =>
    (idxO a1 x3).bind fun v7 =>
    (laws_eqIntS v6 v7).bind fun v8 =>
    if (!v8) = true then
      some (.inr (.inl false))
    else
      some (.inl (w64 (x3 + 1)))
  else
    some (.inr (.inr ()))
noncomputable def laws_eqIntSS (a0 : (List (List Int))) (a1 : (List (List Int))) : Option Bool :=
  if ((a0.length : Int) != (a1.length : Int)) = true then
    some false
  else
    (loopO (laws_eqIntSS_b1 a0 a1) 0).bind fun y4 => (Sum.elim (fun p => some p) (fun p => laws_eqIntSS_k1 p)) y4
noncomputable def laws_markIntS_k1  (x1 : ((List Int) × Int)) : Option (Int × (List Int)) :=
  some (x1.2, x1.1)
noncomputable def laws_markIntS_b1  (x2 : ((List Int) × Int × Int)) : Option (((List Int) × Int × Int) ⊕ ((List Int) × Int)) :=
  if (decide (x2.2.2 < (x2.1.length : Int))) = true then
    (idxO x2.1 x2.2.2).bind fun v5 =>
    some (.inl ((x2.1.set (Int.toNat x2.2.2) x2.2.1), (w64 (x2.2.1 + 1)), (w64 (x2.2.2 + 1))))
  else
    some (.inr (x2.1, x2.2.1))
noncomputable def laws_markIntS (a0 : (List Int)) (a1 : Int) : Option (Int × (List Int)) :=
  (loopO laws_markIntS_b1 (a0, a1, 0)).bind fun y3 => laws_markIntS_k1 y3
noncomputable def laws_markIntSS_k1  (x1 : ((List (List Int)) × Int)) : Option (Int × (List (List Int))) :=
  some (x1.2, x1.1)
noncomputable def laws_markIntSS_b1  (x2 : ((List (List Int)) × Int × Int)) : Option (((List (List Int)) × Int × Int) ⊕ ((List (List Int)) × Int)) :=
  if (decide (x2.2.2 < (x2.1.length : Int))) = true then
    (idxO x2.1 x2.2.2).bind fun v5 =>
    (laws_markIntS v5 x2.2.1).bind fun v6 =>
    some (.inl ((x2.1.set (Int.toNat x2.2.2) v6.2), v6.1, (w64 (x2.2.2 + 1))))
  else
    some (.inr (x2.1, x2.2.1))
noncomputable def laws_markIntSS (a0 : (List (List Int))) (a1 : Int) : Option (Int × (List (List Int))) :=
  (loopO laws_markIntSS_b1 (a0, a1, 0)).bind fun y3 => laws_markIntSS_k1 y3
noncomputable def laws_heldIntS_k1  (x1 : Int) : Option Int :=
  some x1
noncomputable def laws_heldIntS_b1 (a0 : (List Int)) (x2 : (Int × Int)) : Option ((Int × Int) ⊕ (Int ⊕ Int)) :=
  if (decide (x2.2 < (a0.length : Int))) = true then
    (idxO a0 x2.2).bind fun v5 =>
    if (v5 != x2.1) = true then
      some (.inr (.inl (-1)))
    else
      some (.inl ((w64 (x2.1 + 1)), (w64 (x2.2 + 1))))
  else
    some (.inr (.inr x2.1))
noncomputable def laws_heldIntS (a0 : (List Int)) (a1 : Int) : Option Int :=
  (loopO (laws_heldIntS_b1 a0) (a1, 0)).bind fun y3 => (Sum.elim (fun p => some p) (fun p => laws_heldIntS_k1 p)) y3
noncomputable def spec_grSteps (a0 : Int) : Option Bool :=
  (spec_l1In a0 0 12).bind fun v1 =>
  some v1
noncomputable def spec_l1Least (a0 : Int) (a1 : Int) : Option Int :=
  if (decide (a0 < a1)) = true then
    some a0
  else
    some a1
noncomputable def spec_grCap (a0 : Int) : Option Int :=
  (spec_l1Least a0 1000000001).bind fun v1 =>
  some v1
noncomputable def spec_grPower_k2  (x2 : (List (List Int))) : Option (List (List Int)) :=
  some x2
noncomputable def spec_grPower_k3 (x3 : (Int × (List (List Int)))) (x6 : (List (List Int))) : Option ((Int × (List (List Int))) ⊕ (List (List Int))) :=
  some (.inl ((w64 (x3.1 - 1)), x6))
noncomputable def spec_grPower_k4 (x3 : (Int × (List (List Int)))) (x7 : (List (List Int))) : Option ((Int × (List (List Int))) ⊕ (List (List Int))) :=
  spec_grPower_k3 x3 x7
noncomputable def spec_grPower_k5 (x8 : ((List (List Int)) × Int)) (x11 : (List (List Int))) : Option (((List (List Int)) × Int) ⊕ (List (List Int))) :=
  some (.inl (x11, (w64 (x8.2 + 1))))
noncomputable def spec_grPower_k6 (x8 : ((List (List Int)) × Int)) (x13 : (List Int)) : Option (((List (List Int)) × Int) ⊕ (List (List Int))) :=
  (guardO (x8.1.length + ([x13]).length ≤ 1099511627776)).bind fun u14 =>
  spec_grPower_k5 x8 (x8.1 ++ [x13])
noncomputable def spec_grPower_k7 (x15 : ((List Int) × Int)) (x18 : (List Int)) : Option (((List Int) × Int) ⊕ (List Int)) :=
  some (.inl (x18, (w64 (x15.2 + 1))))
noncomputable def spec_grPower_b4 (a0 : (List (List Int))) (x3 : (Int × (List (List Int)))) (x8 : ((List (List Int)) × Int)) (x15 : ((List Int) × Int)) (x19 : ((List Int) × Int)) : Option (((List Int) × Int) ⊕ (List Int)) :=
  if (decide (x19.2 < (a0.length : Int))) = true then
    (idxO x19.1 x15.2).bind fun v22 =>
    (idxO x3.2 x8.2).bind fun v23 =>
    (idxO v23 x19.2).bind fun v24 =>
    (idxO a0 x19.2).bind fun v25 =>
    (idxO v25 x15.2).bind fun v26 =>
    (spec_grCap (w64 (v22 + (w64 (v24 * v26))))).bind fun v27 =>
    some (.inl ((x19.1.set (Int.toNat x15.2) v27), (w64 (x19.2 + 1))))
  else
    some (.inr x19.1)
noncomputable def spec_grPower_b3 (a0 : (List (List Int))) (x3 : (Int × (List (List Int)))) (x8 : ((List (List Int)) × Int)) (x15 : ((List Int) × Int)) : Option (((List Int) × Int) ⊕ (List Int)) :=
  if (decide (x15.2 < (a0.length : Int))) = true then
    (loopO (spec_grPower_b4 a0 x3 x8 x15) (x15.1, 0)).bind fun y20 => spec_grPower_k7 x15 y20
  else
    some (.inr x15.1)
noncomputable def spec_grPower_b2 (a0 : (List (List Int))) (x3 : (Int × (List (List Int)))) (x8 : ((List (List Int)) × Int)) : Option (((List (List Int)) × Int) ⊕ (List (List Int))) :=
  if (decide (x8.2 < (a0.length : Int))) = true then
    (guardO (0 ≤ (a0.length : Int) ∧ (a0.length : Int) ≤ 1099511627776)).bind fun u12 =>
    (loopO (spec_grPower_b3 a0 x3 x8) ((List.replicate (Int.toNat (a0.length : Int)) (0 : Int)), 0)).bind fun y16 => spec_grPower_k6 x8 y16
  else
    some (.inr x8.1)
noncomputable def spec_grPower_b1 (a0 : (List (List Int))) (x3 : (Int × (List (List Int)))) : Option ((Int × (List (List Int))) ⊕ (List (List Int))) :=
  if (decide (x3.1 > 0)) = true then
    (loopO (spec_grPower_b2 a0 x3) ([], 0)).bind fun y9 => spec_grPower_k4 x3 y9
  else
    some (.inr x3.2)
noncomputable def spec_grPower_k1 (a0 : (List (List Int))) (a1 : Int) (x1 : (List (List Int))) : Option (List (List Int)) :=
  (loopO (spec_grPower_b1 a0) (a1, x1)).bind fun y4 => spec_grPower_k2 y4
noncomputable def spec_grPower_b5 (a0 : (List (List Int))) (x28 : ((List (List Int)) × Int)) : Option (((List (List Int)) × Int) ⊕ (List (List Int))) :=
  if (decide (x28.2 < (a0.length : Int))) = true then
    (guardO (0 ≤ (a0.length : Int) ∧ (a0.length : Int) ≤ 1099511627776)).bind fun u31 =>
    (guardO (x28.1.length + ([(List.replicate (Int.toNat (a0.length : Int)) (0 : Int))]).length ≤ 1099511627776)).bind fun u32 =>
    (idxO (x28.1 ++ [(List.replicate (Int.toNat (a0.length : Int)) (0 : Int))]) x28.2).bind fun v33 =>
    (idxO v33 x28.2).bind fun v34 =>
    some (.inl (((x28.1 ++ [(List.replicate (Int.toNat (a0.length : Int)) (0 : Int))]).set (Int.toNat x28.2) (v33.set (Int.toNat x28.2) 1)), (w64 (x28.2 + 1))))
  else
    some (.inr x28.1)
noncomputable def spec_grPower (a0 : (List (List Int))) (a1 : Int) : Option (List (List Int)) :=
  (loopO (spec_grPower_b5 a0) ([], 0)).bind fun y29 => spec_grPower_k1 a0 a1 y29
noncomputable def spec_gwTotal_k1  (x1 : Int) : Option Int :=
  some x1
noncomputable def spec_gwTotal_k2 (x3 : (Int × Int)) (x6 : Int) : Option ((Int × Int) ⊕ Int) :=
  some (.inl (x6, (w64 (x3.2 + 1))))
noncomputable def spec_gwTotal_b2 (v7 : (List Int)) (x8 : (Int × Int)) : Option ((Int × Int) ⊕ Int) :=
  if (decide (x8.2 < (v7.length : Int))) = true then
    (idxO v7 x8.2).bind fun v11 =>
    (spec_grCap (w64 (x8.1 + v11))).bind fun v12 =>
    some (.inl (v12, (w64 (x8.2 + 1))))
  else
    some (.inr x8.1)
noncomputable def spec_gwTotal_b1 (v2 : (List (List Int))) (x3 : (Int × Int)) : Option ((Int × Int) ⊕ Int) :=
  if (decide (x3.2 < (v2.length : Int))) = true then
    (idxO v2 x3.2).bind fun v7 =>
    (loopO (spec_gwTotal_b2 v7) (x3.1, 0)).bind fun y9 => spec_gwTotal_k2 x3 y9
  else
    some (.inr x3.1)
noncomputable def spec_gwTotal (a0 : (List (List Int))) (a1 : Int) : Option Int :=
  (spec_grPower a0 a1).bind fun v2 =>
  (loopO (spec_gwTotal_b1 v2) (0, 0)).bind fun y4 => spec_gwTotal_k1 y4
noncomputable def spec_TotalWalks (a0 : (List (List Int))) (a1 : Int) : Option (Int × Bool) :=
  (spec_grGood a0).bind fun v1 =>
  (if (!v1) = true then
      some true
    else
      (spec_grSteps a1).bind fun v2 =>
      if (!v2) = true then
        some true
      else
        (spec_gwTotal a0 a1).bind fun v3 =>
        some (decide (v3 > 1000000000))).bind fun w4 =>
  if w4 = true then
    some (0, false)
  else
    (spec_gwTotal a0 a1).bind fun v6 =>
    some (v6, true)
noncomputable def impl_isWalk (a0 : (List (List Int))) (a1 : Int) : Option Bool :=
  (impl_isGraph a0).bind fun v1 =>
  (if v1 = true then
      (impl_within a1 0 12).bind fun v2 =>
      some v2
    else
      some false).bind fun w3 =>
  some w3
noncomputable def impl_emptyGraph_k1  (x2 : (List (List Int))) : Option (List (List Int)) :=
  some x2
noncomputable def impl_emptyGraph_b1 (a0 : Int) (x3 : ((List (List Int)) × Int)) : Option (((List (List Int)) × Int) ⊕ (List (List Int))) :=
  if (decide (x3.2 < ((List.replicate (Int.toNat a0) ([] : (List Int))).length : Int))) = true then
    (idxO x3.1 x3.2).bind fun v6 =>
    some (.inl ((x3.1.set (Int.toNat x3.2) (List.replicate (Int.toNat a0) (0 : Int))), (w64 (x3.2 + 1))))
  else
    some (.inr x3.1)
noncomputable def impl_emptyGraph (a0 : Int) : Option (List (List Int)) :=
  (guardO (0 ≤ a0 ∧ a0 ≤ 1099511627776)).bind fun u1 =>
  (loopO (impl_emptyGraph_b1 a0) ((List.replicate (Int.toNat a0) ([] : (List Int))), 0)).bind fun y4 => impl_emptyGraph_k1 y4
noncomputable def impl_powerUpTo_k2  (x3 : (List (List Int))) : Option (List (List Int)) :=
  some x3
noncomputable def impl_powerUpTo_k3 (x4 : ((List (List Int)) × Int)) (x7 : (List (List Int))) : Option (((List (List Int)) × Int) ⊕ (List (List Int))) :=
  some (.inl (x7, (w64 (x4.2 + 1))))
noncomputable def impl_powerUpTo_k4 (x4 : ((List (List Int)) × Int)) (x9 : (List (List Int))) : Option (((List (List Int)) × Int) ⊕ (List (List Int))) :=
  impl_powerUpTo_k3 x4 x9
noncomputable def impl_powerUpTo_k5 (x10 : ((List (List Int)) × Int)) (x13 : (List (List Int))) : Option (((List (List Int)) × Int) ⊕ (List (List Int))) :=
  some (.inl (x13, (w64 (x10.2 + 1))))
noncomputable def impl_powerUpTo_k6 (x15 : ((List (List Int)) × Int)) (x18 : (List (List Int))) : Option (((List (List Int)) × Int) ⊕ (List (List Int))) :=
  some (.inl (x18, (w64 (x15.2 + 1))))
noncomputable def impl_powerUpTo_b4 (a2 : Int) (x10 : ((List (List Int)) × Int)) (v19 : Int) (v20 : (List Int)) (x21 : ((List (List Int)) × Int)) : Option (((List (List Int)) × Int) ⊕ (List (List Int))) :=
  if (decide (x21.2 < (v20.length : Int))) = true then
    (idxO v20 x21.2).bind fun v24 =>
    (idxO x21.1 x10.2).bind fun v25 =>
    (idxO v25 x21.2).bind fun v26 =>
    some (.inl ((x21.1.set (Int.toNat x10.2) (v25.set (Int.toNat x21.2) (if a2 < (w64 (v26 + (w64 (v19 * v24)))) then a2 else (w64 (v26 + (w64 (v19 * v24))))))), (w64 (x21.2 + 1))))
  else
    some (.inr x21.1)
noncomputable def impl_powerUpTo_b3 (a0 : (List (List Int))) (a2 : Int) (x10 : ((List (List Int)) × Int)) (v14 : (List Int)) (x15 : ((List (List Int)) × Int)) : Option (((List (List Int)) × Int) ⊕ (List (List Int))) :=
  if (decide (x15.2 < (v14.length : Int))) = true then
    (idxO v14 x15.2).bind fun v19 =>
    (idxO a0 x15.2).bind fun v20 =>
    (loopO (impl_powerUpTo_b4 a2 x10 v19 v20) (x15.1, 0)).bind fun y22 => impl_powerUpTo_k6 x15 y22
  else
    some (.inr x15.1)
noncomputable def impl_powerUpTo_b2 (a0 : (List (List Int))) (a2 : Int) (x4 : ((List (List Int)) × Int)) (x10 : ((List (List Int)) × Int)) : Option (((List (List Int)) × Int) ⊕ (List (List Int))) :=
  if (decide (x10.2 < (x4.1.length : Int))) = true then
    (idxO x4.1 x10.2).bind fun v14 =>
    (loopO (impl_powerUpTo_b3 a0 a2 x10 v14) (x10.1, 0)).bind fun y16 => impl_powerUpTo_k5 x10 y16
  else
    some (.inr x10.1)
noncomputable def impl_powerUpTo_b1 (a0 : (List (List Int))) (a1 : Int) (a2 : Int) (x4 : ((List (List Int)) × Int)) : Option (((List (List Int)) × Int) ⊕ (List (List Int))) :=
  if (decide (x4.2 < a1)) = true then
    (impl_emptyGraph (a0.length : Int)).bind fun v8 =>
    (loopO (impl_powerUpTo_b2 a0 a2 x4) (v8, 0)).bind fun y11 => impl_powerUpTo_k4 x4 y11
  else
    some (.inr x4.1)
noncomputable def impl_powerUpTo_k1 (a0 : (List (List Int))) (a1 : Int) (a2 : Int) (x2 : (List (List Int))) : Option (List (List Int)) :=
  (loopO (impl_powerUpTo_b1 a0 a1 a2) (x2, 0)).bind fun y5 => impl_powerUpTo_k2 y5
noncomputable def impl_powerUpTo_b5 (v1 : (List (List Int))) (x27 : ((List (List Int)) × Int)) : Option (((List (List Int)) × Int) ⊕ (List (List Int))) :=
  if (decide (x27.2 < (v1.length : Int))) = true then
    (idxO x27.1 x27.2).bind fun v30 =>
    (idxO v30 x27.2).bind fun v31 =>
    some (.inl ((x27.1.set (Int.toNat x27.2) (v30.set (Int.toNat x27.2) 1)), (w64 (x27.2 + 1))))
  else
    some (.inr x27.1)
noncomputable def impl_powerUpTo (a0 : (List (List Int))) (a1 : Int) (a2 : Int) : Option (List (List Int)) :=
  (impl_emptyGraph (a0.length : Int)).bind fun v1 =>
  (loopO (impl_powerUpTo_b5 v1) (v1, 0)).bind fun y28 => impl_powerUpTo_k1 a0 a1 a2 y28
noncomputable def impl_power (a0 : (List (List Int))) (a1 : Int) : Option (List (List Int)) :=
  (impl_powerUpTo a0 a1 1000000001).bind fun v1 =>
  some v1
noncomputable def impl_TotalWalks_k1  (x3 : Int) : Option (Int × Bool) :=
  if (decide (x3 > 1000000000)) = true then
    some (0, false)
  else
    some (x3, true)
noncomputable def impl_TotalWalks_k2 (x6 : (Int × Int)) (x9 : Int) : Option ((Int × Int) ⊕ Int) :=
  some (.inl (x9, (w64 (x6.2 + 1))))
noncomputable def impl_TotalWalks_b2 (v10 : (List Int)) (x11 : (Int × Int)) : Option ((Int × Int) ⊕ Int) :=
  if (decide (x11.2 < (v10.length : Int))) = true then
    (idxO v10 x11.2).bind fun v14 =>
    some (.inl ((w64 (x11.1 + v14)), (w64 (x11.2 + 1))))
  else
    some (.inr x11.1)
noncomputable def impl_TotalWalks_b1 (v5 : (List (List Int))) (x6 : (Int × Int)) : Option ((Int × Int) ⊕ Int) :=
  if (decide (x6.2 < (v5.length : Int))) = true then
    (idxO v5 x6.2).bind fun v10 =>
    (loopO (impl_TotalWalks_b2 v10) (x6.1, 0)).bind fun y12 => impl_TotalWalks_k2 x6 y12
  else
    some (.inr x6.1)
noncomputable def impl_TotalWalks (a0 : (List (List Int))) (a1 : Int) : Option (Int × Bool) :=
  (impl_isWalk a0 a1).bind fun v1 =>
  if (!v1) = true then
    some (0, false)
  else
    (impl_power a0 a1).bind fun v5 =>
    (loopO (impl_TotalWalks_b1 v5) (0, 0)).bind fun y7 => impl_TotalWalks_k1 y7
noncomputable def laws_FnExactTotalWalks (a0 : (List (List Int))) (a1 : Int) : Option Bool :=
  (laws_szIntSS a0 1048576).bind fun v1 =>
  if (decide (v1 < 0)) = true then
    some true
  else
    (laws_toIntSS a0).bind fun v3 =>
    (spec_TotalWalks v3 a1).bind fun v4 =>
    (laws_toIntSS a0).bind fun v5 =>
    (impl_TotalWalks v5 a1).bind fun v6 =>
    if ((v6.1 != v4.1) || (!(v6.2 == v4.2))) = true then
      some false
    else
      (laws_toIntSS a0).bind fun v8 =>
      (laws_eqIntSS v5 v8).bind fun v9 =>
      if (!v9) = true then
        some false
      else
        some true
noncomputable def spec_WalkDigits_k1  (x7 : Int) : Option (Int × Bool) :=
  some (x7, true)
noncomputable def spec_WalkDigits_b1  (x8 : (Int × Int)) : Option ((Int × Int) ⊕ Int) :=
  if (decide (x8.1 > 1)) = true then
    some (.inl ((w64 (Int.tdiv x8.1 2)), (w64 (x8.2 + 1))))
  else
    some (.inr x8.2)
noncomputable def spec_WalkDigits (a0 : (List (List Int))) (a1 : Int) : Option (Int × Bool) :=
  (spec_grGood a0).bind fun v1 =>
  (if (!v1) = true then
      some true
    else
      (spec_grSteps a1).bind fun v2 =>
      some (!v2)).bind fun w3 =>
  if w3 = true then
    some (0, false)
  else
    (spec_gwTotal a0 a1).bind fun v5 =>
    if ((v5 == 0) || (decide (v5 > 1000000000))) = true then
      some (0, false)
    else
      (loopO spec_WalkDigits_b1 (v5, 0)).bind fun y9 => spec_WalkDigits_k1 y9
noncomputable def impl_WalkDigits_k1  (x3 : Int) : Option (Int × Bool) :=
  some (x3, true)
noncomputable def impl_WalkDigits_b1  (x4 : (Int × Int)) : Option ((Int × Int) ⊕ Int) :=
  if (decide (x4.1 > 1)) = true then
    some (.inl ((w64 (Int.tdiv x4.1 2)), (w64 (x4.2 + 1))))
  else
    some (.inr x4.2)
noncomputable def impl_WalkDigits (a0 : (List (List Int))) (a1 : Int) : Option (Int × Bool) :=
  (impl_TotalWalks a0 a1).bind fun v1 =>
  if ((!v1.2) || (v1.1 == 0)) = true then
    some (0, false)
  else
    (loopO impl_WalkDigits_b1 (v1.1, 0)).bind fun y5 => impl_WalkDigits_k1 y5
noncomputable def laws_FnExactWalkDigits (a0 : (List (List Int))) (a1 : Int) : Option Bool :=
  (laws_szIntSS a0 1048576).bind fun v1 =>
  if (decide (v1 < 0)) = true then
    some true
  else
    (laws_toIntSS a0).bind fun v3 =>
    (spec_WalkDigits v3 a1).bind fun v4 =>
    (laws_toIntSS a0).bind fun v5 =>
    (impl_WalkDigits v5 a1).bind fun v6 =>
    if ((v6.1 != v4.1) || (!(v6.2 == v4.2))) = true then
      some false
    else
      (laws_toIntSS a0).bind fun v8 =>
      (laws_eqIntSS v5 v8).bind fun v9 =>
      if (!v9) = true then
        some false
      else
        some true
noncomputable def spec_raMake_k1 (a0 : Int) (a1 : Int) (x5 : Int) : Option ((Int × Int) × Bool) :=
  (guardO (x5 ≠ 0)).bind fun u6 =>
  (spec_raGood ((w64 (Int.tdiv a0 x5)), (w64 (Int.tdiv a1 x5)))).bind fun v7 =>
  if (!v7) = true then
    some ((0, 0), false)
  else
    some (((w64 (Int.tdiv a0 x5)), (w64 (Int.tdiv a1 x5))), true)
noncomputable def spec_raMake (a0 : Int) (a1 : Int) : Option ((Int × Int) × Bool) :=
  if (a1 == 0) = true then
    some ((0, 0), false)
  else
    (spec_l1Abs a0).bind fun v2 =>
    (spec_l1Abs a1).bind fun v3 =>
    (spec_raCommon v2 v3).bind fun v4 =>
    if (decide (a1 < 0)) = true then
      spec_raMake_k1 a0 a1 (w64 (0 - v4))
    else
      spec_raMake_k1 a0 a1 v4
noncomputable def spec_gwRatios_k1  (x1 : (List (Int × Int))) : Option (List (Int × Int)) :=
  some x1
noncomputable def spec_gwRatios_b1 (a1 : (List Int)) (v2 : (List Int)) (x3 : ((List (Int × Int)) × Int)) : Option (((List (Int × Int)) × Int) ⊕ (List (Int × Int))) :=
  if (decide (x3.2 < (v2.length : Int))) = true then
    (idxO v2 x3.2).bind fun v6 =>
    (idxO a1 x3.2).bind fun v7 =>
    (spec_raMake v6 v7).bind fun v8 =>
    (guardO (x3.1.length + ([v8.1]).length ≤ 1099511627776)).bind fun u9 =>
    some (.inl ((x3.1 ++ [v8.1]), (w64 (x3.2 + 1))))
  else
    some (.inr x3.1)
noncomputable def spec_gwRatios (a0 : (List (List Int))) (a1 : (List Int)) : Option (List (Int × Int)) :=
  (spec_gwTimes a0 a1).bind fun v2 =>
  (loopO (spec_gwRatios_b1 a1 v2) ([], 0)).bind fun y4 => spec_gwRatios_k1 y4
noncomputable def spec_l1Sign (a0 : Int) : Option Int :=
  if (decide (a0 > 0)) = true then
    some 1
  else
    if (decide (a0 < 0)) = true then
      some (-1)
    else
      some 0
noncomputable def spec_raCmp (a0 : (Int × Int)) (a1 : (Int × Int)) : Option Int :=
  (spec_l1Sign (w64 ((w64 (a0.1 * a1.2)) - (w64 (a1.1 * a0.2))))).bind fun v1 =>
  some v1
noncomputable def spec_ivLess (a0 : (Int × Int)) (a1 : (Int × Int)) : Option (Int × Int) :=
  (spec_raCmp a0 a1).bind fun v1 =>
  if (decide (v1 < 0)) = true then
    some a0
  else
    some a1
noncomputable def spec_ivGreater (a0 : (Int × Int)) (a1 : (Int × Int)) : Option (Int × Int) :=
  (spec_raCmp a0 a1).bind fun v1 =>
  if (decide (v1 < 0)) = true then
    some a1
  else
    some a0
noncomputable def spec_gwBounds_k1  (x3 : (Int × Int × Int × Int)) : Option ((Int × Int) × (Int × Int)) :=
  some ((x3.1, x3.2.1), x3.2.2)
noncomputable def spec_gwBounds_b1 (v1 : (List (Int × Int))) (x4 : (Int × Int × Int × Int × Int)) : Option ((Int × Int × Int × Int × Int) ⊕ (Int × Int × Int × Int)) :=
  if (decide (x4.2.2.2.2 < (v1.length : Int))) = true then
    (idxO v1 x4.2.2.2.2).bind fun v7 =>
    (spec_ivLess (x4.1, x4.2.1) v7).bind fun v8 =>
    (spec_ivGreater (x4.2.2.1, x4.2.2.2.1) v7).bind fun v9 =>
    some (.inl (v8.1, v8.2, v9.1, v9.2, (w64 (x4.2.2.2.2 + 1))))
  else
    some (.inr (x4.1, x4.2.1, x4.2.2.1, x4.2.2.2.1))
noncomputable def spec_gwBounds (a0 : (List (List Int))) (a1 : (List Int)) : Option ((Int × Int) × (Int × Int)) :=
  (spec_gwRatios a0 a1).bind fun v1 =>
  (idxO v1 0).bind fun v2 =>
  (loopO (spec_gwBounds_b1 v1) (v2.1, v2.2, v2.1, v2.2, 0)).bind fun y5 => spec_gwBounds_k1 y5
noncomputable def spec_RatioBounds (a0 : (List (List Int))) (a1 : (List Int)) : Option ((Int × Int) × (Int × Int) × Bool) :=
  (spec_gwAsked a0 a1).bind fun v1 =>
  if (!v1) = true then
    some ((0, 0), (0, 0), false)
  else
    (spec_gwBounds a0 a1).bind fun v3 =>
    some (v3.1, v3.2, true)
noncomputable def slices_MinFunc_Limpl_Rat_impl_Rat_k2  (x3 : (Int × Int)) : Option (Int × Int) :=
  some x3
noncomputable def slices_MinFunc_Limpl_Rat_impl_Rat_b1 (a0 : (List (Int × Int))) (a1 : (Int × Int) → (Int × Int) → Option Int) (x4 : (Int × Int × Int)) : Option ((Int × Int × Int) ⊕ (Int × Int)) :=
  if (decide (x4.2.2 < (a0.length : Int))) = true then
    (idxO a0 x4.2.2).bind fun v7 =>
    (a1 v7 (x4.1, x4.2.1)).bind fun v8 =>
    if (decide (v8 < 0)) = true then
      some (.inl (v7.1, v7.2, (w64 (x4.2.2 + 1))))
    else
      some (.inl (x4.1, x4.2.1, (w64 (x4.2.2 + 1))))
  else
    some (.inr (x4.1, x4.2.1))
noncomputable def slices_MinFunc_Limpl_Rat_impl_Rat_k1 (a0 : (List (Int × Int))) (a1 : (Int × Int) → (Int × Int) → Option Int) (x1 : Unit) : Option (Int × Int) :=
  (idxO a0 0).bind fun v2 =>
  (loopO (slices_MinFunc_Limpl_Rat_impl_Rat_b1 a0 a1) (v2.1, v2.2, 1)).bind fun y5 => slices_MinFunc_Limpl_Rat_impl_Rat_k2 y5
noncomputable def slices_MinFunc_Limpl_Rat_impl_Rat (a0 : (List (Int × Int))) (a1 : ((Int × Int) → (Int × Int) → Option Int)) : Option (Int × Int) :=
  if (decide ((a0.length : Int) < 1)) = true then
    none
  else
    slices_MinFunc_Limpl_Rat_impl_Rat_k1 a0 a1 ()
noncomputable def slices_MaxFunc_Limpl_Rat_impl_Rat_k2  (x3 : (Int × Int)) : Option (Int × Int) :=
  some x3
noncomputable def slices_MaxFunc_Limpl_Rat_impl_Rat_b1 (a0 : (List (Int × Int))) (a1 : (Int × Int) → (Int × Int) → Option Int) (x4 : (Int × Int × Int)) : Option ((Int × Int × Int) ⊕ (Int × Int)) :=
  if (decide (x4.2.2 < (a0.length : Int))) = true then
    (idxO a0 x4.2.2).bind fun v7 =>
    (a1 v7 (x4.1, x4.2.1)).bind fun v8 =>
    if (decide (v8 > 0)) = true then
      some (.inl (v7.1, v7.2, (w64 (x4.2.2 + 1))))
    else
      some (.inl (x4.1, x4.2.1, (w64 (x4.2.2 + 1))))
  else
    some (.inr (x4.1, x4.2.1))
noncomputable def slices_MaxFunc_Limpl_Rat_impl_Rat_k1 (a0 : (List (Int × Int))) (a1 : (Int × Int) → (Int × Int) → Option Int) (x1 : Unit) : Option (Int × Int) :=
  (idxO a0 0).bind fun v2 =>
  (loopO (slices_MaxFunc_Limpl_Rat_impl_Rat_b1 a0 a1) (v2.1, v2.2, 1)).bind fun y5 => slices_MaxFunc_Limpl_Rat_impl_Rat_k2 y5
noncomputable def slices_MaxFunc_Limpl_Rat_impl_Rat (a0 : (List (Int × Int))) (a1 : ((Int × Int) → (Int × Int) → Option Int)) : Option (Int × Int) :=
  if (decide ((a0.length : Int) < 1)) = true then
    none
  else
    slices_MaxFunc_Limpl_Rat_impl_Rat_k1 a0 a1 ()
noncomputable def impl_ratioBounds_k1  (x1 : (List (Int × Int))) : Option ((Int × Int) × (Int × Int)) :=
  (slices_MinFunc_Limpl_Rat_impl_Rat x1 (fun x0 x1 => impl_compare x0 x1)).bind fun v2 =>
  (slices_MaxFunc_Limpl_Rat_impl_Rat x1 (fun x0 x1 => impl_compare x0 x1)).bind fun v3 =>
  some (v2, v3)
noncomputable def impl_ratioBounds_b1 (a1 : (List Int)) (v4 : (List Int)) (x5 : ((List (Int × Int)) × Int)) : Option (((List (Int × Int)) × Int) ⊕ (List (Int × Int))) :=
  if (decide (x5.2 < (v4.length : Int))) = true then
    (idxO v4 x5.2).bind fun v8 =>
    (idxO a1 x5.2).bind fun v9 =>
    (impl_lowest v8 v9).bind fun v10 =>
    (guardO (x5.1.length + ([v10.1]).length ≤ 1099511627776)).bind fun u11 =>
    some (.inl ((x5.1 ++ [v10.1]), (w64 (x5.2 + 1))))
  else
    some (.inr x5.1)
noncomputable def impl_ratioBounds (a0 : (List (List Int))) (a1 : (List Int)) : Option ((Int × Int) × (Int × Int)) :=
  (impl_times a0 a1).bind fun v4 =>
  (loopO (impl_ratioBounds_b1 a1 v4) ([], 0)).bind fun y6 => impl_ratioBounds_k1 y6
noncomputable def impl_RatioBounds (a0 : (List (List Int))) (a1 : (List Int)) : Option ((Int × Int) × (Int × Int) × Bool) :=
  (impl_isVectorOf a0 a1).bind fun v1 =>
  if (!v1) = true then
    some ((0, 0), (0, 0), false)
  else
    (impl_ratioBounds a0 a1).bind fun v3 =>
    some (v3.1, v3.2, true)
noncomputable def laws_FnExactRatioBounds (a0 : (List (List Int))) (a1 : (List Int)) : Option Bool :=
  if (decide ((a1.length : Int) > 1048576)) = true then
    some true
  else
    (laws_szIntSS a0 1048576).bind fun v2 =>
    if (decide (v2 < 0)) = true then
      some true
    else
      (laws_toIntSS a0).bind fun v4 =>
      (laws_toIntS a1).bind fun v5 =>
      (spec_RatioBounds v4 v5).bind fun v6 =>
      (laws_toIntSS a0).bind fun v7 =>
      (laws_toIntS a1).bind fun v8 =>
      (impl_RatioBounds v7 v8).bind fun v9 =>
      (laws_eqRat v9.1 v6.1).bind fun v10 =>
      (if (!v10) = true then
          some true
        else
          (laws_eqRat v9.2.1 v6.2.1).bind fun v11 =>
          if (!v11) = true then
            some true
          else
            some (!(v9.2.2 == v6.2.2))).bind fun w12 =>
      if w12 = true then
        some false
      else
        (laws_toIntSS a0).bind fun v14 =>
        (laws_eqIntSS v7 v14).bind fun v15 =>
        if (!v15) = true then
          some false
        else
          (laws_toIntS a1).bind fun v17 =>
          (laws_eqIntS v8 v17).bind fun v18 =>
          if (!v18) = true then
            some false
          else
            some true
noncomputable def spec_raInt (a0 : Int) : Option (Int × Int) :=
  some (a0, 1)
noncomputable def slices_IndexFunc_Limpl_Point_impl_Point_k1  (x1 : Unit) : Option Int :=
  some (-1)
noncomputable def slices_IndexFunc_Limpl_Point_impl_Point_b1 (a0 : (List ((Int × Int) × (Int × Int)))) (a1 : ((Int × Int) × (Int × Int)) → Option Bool) (x2 : Int) : Option (Int ⊕ (Int ⊕ Unit)) :=
  if (decide (x2 < (a0.length : Int))) = true then
    (idxO a0 x2).bind fun v5 =>
    (a1 v5).bind fun v6 =>
    if v6 = true then
      some (.inr (.inl x2))
    else
      some (.inl (w64 (x2 + 1)))
  else
    some (.inr (.inr ()))
noncomputable def slices_IndexFunc_Limpl_Point_impl_Point (a0 : (List ((Int × Int) × (Int × Int)))) (a1 : (((Int × Int) × (Int × Int)) → Option Bool)) : Option Int :=
  (loopO (slices_IndexFunc_Limpl_Point_impl_Point_b1 a0 a1) 0).bind fun y3 => (Sum.elim (fun p => some p) (fun p => slices_IndexFunc_Limpl_Point_impl_Point_k1 p)) y3
noncomputable def slices_ContainsFunc_Limpl_Point_impl_Point (a0 : (List ((Int × Int) × (Int × Int)))) (a1 : (((Int × Int) × (Int × Int)) → Option Bool)) : Option Bool :=
  (slices_IndexFunc_Limpl_Point_impl_Point a0 a1).bind fun v1 =>
  some (decide (v1 ≥ 0))
noncomputable def impl_isUnit (a0 : (Int × Int)) : Option Bool :=
  (impl_isRat a0).bind fun v1 =>
  some (v1 && ((decide (a0.1 ≥ 0)) && (decide (a0.1 ≤ a0.2))))
noncomputable def impl_isCoord (a0 : (Int × Int)) : Option Bool :=
  (impl_isUnit a0).bind fun v1 =>
  some (v1 && (decide (a0.2 ≤ 100)))
noncomputable def impl_isLift_1 (a0 : ((Int × Int) × (Int × Int))) : Option Bool :=
  (impl_isCoord a0.1).bind fun v1 =>
  (if (!v1) = true then
      some true
    else
      (impl_isRat a0.2).bind fun v2 =>
      if (!v2) = true then
        some true
      else
        if (decide (a0.2.2 > 100)) = true then
          some true
        else
          (impl_whole (-5)).bind fun v3 =>
          (impl_less a0.2 v3).bind fun v4 =>
          if v4 = true then
            some true
          else
            (impl_whole 5).bind fun v5 =>
            (impl_less v5 a0.2).bind fun v6 =>
            some v6).bind fun w7 =>
  some w7
noncomputable def impl_zero  : Option (Int × Int) :=
  some (0, 1)
noncomputable def impl_oneRat  : Option (Int × Int) :=
  some (1, 1)
noncomputable def impl_isLift_k1 (a0 : (List ((Int × Int) × (Int × Int)))) (x5 : Unit) : Option Bool :=
  (idxO a0 0).bind fun v6 =>
  (idxO a0 (w64 ((a0.length : Int) - 1))).bind fun v7 =>
  (impl_zero).bind fun v8 =>
  (if ((v6.1.1 == v8.1) && (v6.1.2 == v8.2)) = true then
      (impl_oneRat).bind fun v9 =>
      if ((v7.1.1 == v9.1) && (v7.1.2 == v9.2)) = true then
        some ((v7.2.1 == (w64 (v6.2.1 + v6.2.2))) && (v7.2.2 == v6.2.2))
      else
        some false
    else
      some false).bind fun w10 =>
  some w10
noncomputable def impl_isLift_b1 (a0 : (List ((Int × Int) × (Int × Int)))) (x11 : Int) : Option (Int ⊕ (Bool ⊕ Unit)) :=
  if (decide (x11 < (a0.length : Int))) = true then
    (idxO a0 (w64 (x11 - 1))).bind fun v14 =>
    (idxO a0 x11).bind fun v15 =>
    (impl_less v14.1 v15.1).bind fun v16 =>
    (if (!v16) = true then
        some true
      else
        (impl_less v15.2 v14.2).bind fun v17 =>
        some v17).bind fun w18 =>
    if w18 = true then
      some (.inr (.inl false))
    else
      some (.inl (w64 (x11 + 1)))
  else
    some (.inr (.inr ()))
noncomputable def impl_isLift (a0 : (List ((Int × Int) × (Int × Int)))) : Option Bool :=
  (impl_within (a0.length : Int) 2 12).bind fun v1 =>
  (if (!v1) = true then
      some true
    else
      (slices_ContainsFunc_Limpl_Point_impl_Point a0 (fun x0 => impl_isLift_1 x0)).bind fun v2 =>
      some v2).bind fun w3 =>
  if w3 = true then
    some false
  else
    (loopO (impl_isLift_b1 a0) 1).bind fun y12 => (Sum.elim (fun p => some p) (fun p => impl_isLift_k1 a0 p)) y12
noncomputable def impl_calc_keep (a0 : Bool) (a1 : (Int × Int)) (a2 : Bool) : Option ((Int × Int) × Bool) :=
  if (!a2) = true then
    (impl_zero).bind fun v2 =>
    some (v2, true)
  else
    some (a1, a0)
noncomputable def impl_calc_sub (a0 : Bool) (a1 : (Int × Int)) (a2 : (Int × Int)) : Option ((Int × Int) × Bool) :=
  (impl_SubtractRats a1 a2).bind fun v1 =>
  (impl_calc_keep a0 v1.1 v1.2).bind fun v2 =>
  some v2
noncomputable def impl_pieceAt_1 (a0 : ((Int × Int) × (Int × Int))) (c0 : (Int × Int)) : Option Bool :=
  (impl_less a0.1 c0).bind fun v1 =>
  some (!v1)
noncomputable def impl_pieceAt (a0 : (List ((Int × Int) × (Int × Int)))) (a1 : (Int × Int)) : Option Int :=
  (slices_IndexFunc_Limpl_Point_impl_Point a0 (fun x0 => impl_pieceAt_1 x0 a1)).bind fun v1 =>
  some (if (w64 (v1 - 1)) < 0 then 0 else (w64 (v1 - 1)))
noncomputable def impl_DivideRats (a0 : (Int × Int)) (a1 : (Int × Int)) : Option ((Int × Int) × Bool) :=
  (impl_areRats ([a0, a1])).bind fun v1 =>
  if ((!v1) || (a1.1 == 0)) = true then
    some ((0, 0), false)
  else
    (impl_lowest (w64 (a0.1 * a1.2)) (w64 (a0.2 * a1.1))).bind fun v3 =>
    some v3
noncomputable def impl_calc_div (a0 : Bool) (a1 : (Int × Int)) (a2 : (Int × Int)) : Option ((Int × Int) × Bool) :=
  (impl_DivideRats a1 a2).bind fun v1 =>
  (impl_calc_keep a0 v1.1 v1.2).bind fun v2 =>
  some v2
noncomputable def impl_calc_slope (a0 : Bool) (a1 : ((Int × Int) × (Int × Int))) (a2 : ((Int × Int) × (Int × Int))) : Option ((Int × Int) × Bool) :=
  (impl_calc_sub a0 a2.2 a1.2).bind fun v1 =>
  (impl_calc_sub v1.2 a2.1 a1.1).bind fun v2 =>
  (impl_calc_div v2.2 v1.1 v2.1).bind fun v3 =>
  some v3
noncomputable def impl_MultiplyRats (a0 : (Int × Int)) (a1 : (Int × Int)) : Option ((Int × Int) × Bool) :=
  (impl_areRats ([a0, a1])).bind fun v1 =>
  if (!v1) = true then
    some ((0, 0), false)
  else
    (impl_lowest (w64 (a0.1 * a1.1)) (w64 (a0.2 * a1.2))).bind fun v3 =>
    some v3
noncomputable def impl_calc_mul (a0 : Bool) (a1 : (Int × Int)) (a2 : (Int × Int)) : Option ((Int × Int) × Bool) :=
  (impl_MultiplyRats a1 a2).bind fun v1 =>
  (impl_calc_keep a0 v1.1 v1.2).bind fun v2 =>
  some v2
noncomputable def impl_calc_add (a0 : Bool) (a1 : (Int × Int)) (a2 : (Int × Int)) : Option ((Int × Int) × Bool) :=
  (impl_AddRats a1 a2).bind fun v1 =>
  (impl_calc_keep a0 v1.1 v1.2).bind fun v2 =>
  some v2
noncomputable def impl_calc_line (a0 : Bool) (a1 : ((Int × Int) × (Int × Int))) (a2 : (Int × Int)) (a3 : (Int × Int)) : Option ((Int × Int) × Bool) :=
  (impl_calc_sub a0 a3 a1.1).bind fun v1 =>
  (impl_calc_mul v1.2 a2 v1.1).bind fun v2 =>
  (impl_calc_add v2.2 a1.2 v2.1).bind fun v3 =>
  some v3
noncomputable def impl_calc_value (a0 : Bool) (a1 : (List ((Int × Int) × (Int × Int)))) (a2 : (Int × Int)) : Option ((Int × Int) × Bool) :=
  (impl_pieceAt a1 a2).bind fun v1 =>
  (idxO a1 v1).bind fun v2 =>
  (idxO a1 (w64 (v1 + 1))).bind fun v3 =>
  (impl_calc_slope a0 v2 v3).bind fun v4 =>
  (impl_calc_line v4.2 v2 v4.1 a2).bind fun v5 =>
  some v5
noncomputable def impl_calc_lift (a0 : Bool) (a1 : (List ((Int × Int) × (Int × Int)))) (a2 : (Int × Int)) : Option ((Int × Int) × Bool) :=
  (impl_floor a2).bind fun v1 =>
  (impl_whole v1).bind fun v2 =>
  (impl_calc_sub a0 a2 v2).bind fun v3 =>
  (impl_calc_value v3.2 a1 v3.1).bind fun v4 =>
  (impl_calc_add v4.2 v4.1 v2).bind fun v5 =>
  some v5
noncomputable def spec_raUnit (a0 : (Int × Int)) : Option Bool :=
  (spec_raGood a0).bind fun v1 =>
  (if v1 = true then
      (spec_l1In a0.1 0 a0.2).bind fun v2 =>
      some v2
    else
      some false).bind fun w3 =>
  some w3
noncomputable def spec_imCoord (a0 : (Int × Int)) : Option Bool :=
  (spec_raUnit a0).bind fun v1 =>
  some (v1 && (decide (a0.2 ≤ 100)))
noncomputable def spec_liGood_k1 (a0 : (List ((Int × Int) × (Int × Int)))) (x3 : Unit) : Option Bool :=
  (idxO a0 0).bind fun v4 =>
  (idxO a0 (w64 ((a0.length : Int) - 1))).bind fun v5 =>
  (spec_raInt 0).bind fun v6 =>
  (spec_raCmp v4.1 v6).bind fun v7 =>
  (if (v7 == 0) = true then
      (spec_raInt 1).bind fun v8 =>
      (spec_raCmp v5.1 v8).bind fun v9 =>
      if (v9 == 0) = true then
        (spec_liPlus v4.2 1).bind fun v10 =>
        some ((v5.2.1 == v10.1) && (v5.2.2 == v10.2))
      else
        some false
    else
      some false).bind fun w11 =>
  some w11
noncomputable def spec_liGood_b1 (a0 : (List ((Int × Int) × (Int × Int)))) (x12 : Int) : Option (Int ⊕ (Bool ⊕ Unit)) :=
  if (decide (x12 < (a0.length : Int))) = true then
    (idxO a0 x12).bind fun v15 =>
    (spec_imCoord v15.1).bind fun v16 =>
    (if (!v16) = true then
        some true
      else
        (spec_raGood v15.2).bind fun v17 =>
        if (!v17) = true then
          some true
        else
          if (decide (v15.2.2 > 100)) = true then
            some true
          else
            (spec_l1In v15.2.1 (w64 ((-5) * v15.2.2)) (w64 (5 * v15.2.2))).bind fun v18 =>
            some (!v18)).bind fun w19 =>
    if w19 = true then
      some (.inr (.inl false))
    else
      (if (decide (x12 > 0)) = true then
          (idxO a0 (w64 (x12 - 1))).bind fun v21 =>
          (spec_raCmp v21.1 v15.1).bind fun v22 =>
          if (decide (v22 ≥ 0)) = true then
            some true
          else
            (spec_raCmp v21.2 v15.2).bind fun v23 =>
            some (decide (v23 > 0))
        else
          some false).bind fun w24 =>
      if w24 = true then
        some (.inr (.inl false))
      else
        some (.inl (w64 (x12 + 1)))
  else
    some (.inr (.inr ()))
noncomputable def spec_liGood (a0 : (List ((Int × Int) × (Int × Int)))) : Option Bool :=
  (spec_l1In (a0.length : Int) 2 12).bind fun v1 =>
  if (!v1) = true then
    some false
  else
    (loopO (spec_liGood_b1 a0) 0).bind fun y13 => (Sum.elim (fun p => some p) (fun p => spec_liGood_k1 a0 p)) y13
noncomputable def spec_imPiece_k1  (x1 : Int) : Option Int :=
  some x1
noncomputable def spec_imPiece_b1 (a0 : (List ((Int × Int) × (Int × Int)))) (a1 : (Int × Int)) (x2 : Int) : Option (Int ⊕ Int) :=
  (if (decide ((w64 (x2 + 2)) < (a0.length : Int))) = true then
      (idxO a0 (w64 (x2 + 1))).bind fun v4 =>
      (spec_raCmp v4.1 a1).bind fun v5 =>
      some (decide (v5 < 0))
    else
      some false).bind fun w6 =>
  if w6 = true then
    some (.inl (w64 (x2 + 1)))
  else
    some (.inr x2)
noncomputable def spec_imPiece (a0 : (List ((Int × Int) × (Int × Int)))) (a1 : (Int × Int)) : Option Int :=
  (loopO (spec_imPiece_b1 a0 a1) 0).bind fun y3 => spec_imPiece_k1 y3
noncomputable def spec_raSub (a0 : (Int × Int)) (a1 : (Int × Int)) : Option ((Int × Int) × Bool) :=
  (spec_raMake (w64 ((w64 (a0.1 * a1.2)) - (w64 (a1.1 * a0.2)))) (w64 (a0.2 * a1.2))).bind fun v1 =>
  some v1
noncomputable def spec_raDiv (a0 : (Int × Int)) (a1 : (Int × Int)) : Option ((Int × Int) × Bool) :=
  if (a1.1 == 0) = true then
    some ((0, 0), false)
  else
    (spec_raMake (w64 (a0.1 * a1.2)) (w64 (a0.2 * a1.1))).bind fun v2 =>
    some v2
noncomputable def spec_imSlope (a0 : ((Int × Int) × (Int × Int))) (a1 : ((Int × Int) × (Int × Int))) : Option (Int × Int) :=
  (spec_raSub a1.2 a0.2).bind fun v1 =>
  (spec_raSub a1.1 a0.1).bind fun v2 =>
  (spec_raDiv v1.1 v2.1).bind fun v3 =>
  some v3.1
noncomputable def spec_raMul (a0 : (Int × Int)) (a1 : (Int × Int)) : Option ((Int × Int) × Bool) :=
  (spec_raMake (w64 (a0.1 * a1.1)) (w64 (a0.2 * a1.2))).bind fun v1 =>
  some v1
noncomputable def spec_raAdd (a0 : (Int × Int)) (a1 : (Int × Int)) : Option ((Int × Int) × Bool) :=
  (spec_raMake (w64 ((w64 (a0.1 * a1.2)) + (w64 (a1.1 * a0.2)))) (w64 (a0.2 * a1.2))).bind fun v1 =>
  some v1
noncomputable def spec_imOn (a0 : ((Int × Int) × (Int × Int))) (a1 : ((Int × Int) × (Int × Int))) (a2 : (Int × Int)) : Option ((Int × Int) × Bool) :=
  (spec_raSub a2 a0.1).bind fun v1 =>
  (spec_imSlope a0 a1).bind fun v2 =>
  (spec_raMul v1.1 v2).bind fun v3 =>
  if ((!v1.2) || (!v3.2)) = true then
    some ((0, 0), false)
  else
    (spec_raAdd a0.2 v3.1).bind fun v5 =>
    some v5
noncomputable def spec_imAt (a0 : (List ((Int × Int) × (Int × Int)))) (a1 : (Int × Int)) : Option ((Int × Int) × Bool) :=
  (spec_imPiece a0 a1).bind fun v1 =>
  (idxO a0 v1).bind fun v2 =>
  (idxO a0 (w64 (v1 + 1))).bind fun v3 =>
  (spec_imOn v2 v3 a1).bind fun v4 =>
  some v4
noncomputable def spec_liAt (a0 : (List ((Int × Int) × (Int × Int)))) (a1 : (Int × Int)) : Option ((Int × Int) × Bool) :=
  (spec_raFloor a1).bind fun v1 =>
  (spec_liPlus a1 (w64 (0 - v1))).bind fun v2 =>
  (spec_imAt a0 v2).bind fun v3 =>
  if (!v3.2) = true then
    some ((0, 0), false)
  else
    (spec_raInt v1).bind fun v5 =>
    (spec_raAdd v3.1 v5).bind fun v6 =>
    some v6
noncomputable def impl_IsLift (a0 : (List ((Int × Int) × (Int × Int)))) : Option Bool :=
  (impl_isLift a0).bind fun v1 =>
  some v1
noncomputable def impl_isMap_1 (a0 : ((Int × Int) × (Int × Int))) : Option Bool :=
  (impl_isCoord a0.1).bind fun v1 =>
  (if (!v1) = true then
      some true
    else
      (impl_isCoord a0.2).bind fun v2 =>
      some (!v2)).bind fun w3 =>
  some w3
noncomputable def impl_xsOf_k1  (x1 : (List (Int × Int))) : Option (List (Int × Int)) :=
  some x1
noncomputable def impl_xsOf_b1 (a0 : (List ((Int × Int) × (Int × Int)))) (x2 : ((List (Int × Int)) × Int)) : Option (((List (Int × Int)) × Int) ⊕ (List (Int × Int))) :=
  if (decide (x2.2 < (a0.length : Int))) = true then
    (idxO a0 x2.2).bind fun v5 =>
    (guardO (x2.1.length + ([v5.1]).length ≤ 1099511627776)).bind fun u6 =>
    some (.inl ((x2.1 ++ [v5.1]), (w64 (x2.2 + 1))))
  else
    some (.inr x2.1)
noncomputable def impl_xsOf (a0 : (List ((Int × Int) × (Int × Int)))) : Option (List (Int × Int)) :=
  (loopO (impl_xsOf_b1 a0) ([], 0)).bind fun y3 => impl_xsOf_k1 y3
noncomputable def impl_isRising_k1  (x1 : Unit) : Option Bool :=
  some true
noncomputable def impl_isRising_b1 (a0 : (List (Int × Int))) (x2 : Int) : Option (Int ⊕ (Bool ⊕ Unit)) :=
  if (decide (x2 < (a0.length : Int))) = true then
    (idxO a0 (w64 (x2 - 1))).bind fun v5 =>
    (idxO a0 x2).bind fun v6 =>
    (impl_less v5 v6).bind fun v7 =>
    if (!v7) = true then
      some (.inr (.inl false))
    else
      some (.inl (w64 (x2 + 1)))
  else
    some (.inr (.inr ()))
noncomputable def impl_isRising (a0 : (List (Int × Int))) : Option Bool :=
  (loopO (impl_isRising_b1 a0) 1).bind fun y3 => (Sum.elim (fun p => some p) (fun p => impl_isRising_k1 p)) y3
noncomputable def impl_isMap (a0 : (List ((Int × Int) × (Int × Int)))) : Option Bool :=
  (impl_within (a0.length : Int) 2 12).bind fun v1 =>
  (if (!v1) = true then
      some true
    else
      (slices_ContainsFunc_Limpl_Point_impl_Point a0 (fun x0 => impl_isMap_1 x0)).bind fun v2 =>
      some v2).bind fun w3 =>
  if w3 = true then
    some false
  else
    (idxO a0 0).bind fun v5 =>
    (impl_zero).bind fun v6 =>
    (if ((v5.1.1 == v6.1) && (v5.1.2 == v6.2)) = true then
        (idxO a0 (w64 ((a0.length : Int) - 1))).bind fun v7 =>
        (impl_oneRat).bind fun v8 =>
        if ((v7.1.1 == v8.1) && (v7.1.2 == v8.2)) = true then
          (impl_xsOf a0).bind fun v9 =>
          (impl_isRising v9).bind fun v10 =>
          some v10
        else
          some false
      else
        some false).bind fun w11 =>
    some w11
noncomputable def impl_slopes_k1  (x1 : (List (Int × Int))) : Option (List (Int × Int)) :=
  some x1
noncomputable def impl_slopes_b1 (a0 : (List ((Int × Int) × (Int × Int)))) (x2 : (Bool × (List (Int × Int)) × Int)) : Option ((Bool × (List (Int × Int)) × Int) ⊕ (List (Int × Int))) :=
  if (decide (x2.2.2 < (a0.length : Int))) = true then
    (idxO a0 (w64 (x2.2.2 - 1))).bind fun v5 =>
    (idxO a0 x2.2.2).bind fun v6 =>
    (impl_calc_slope x2.1 v5 v6).bind fun v7 =>
    (guardO (x2.2.1.length + ([v7.1]).length ≤ 1099511627776)).bind fun u8 =>
    some (.inl (v7.2, (x2.2.1 ++ [v7.1]), (w64 (x2.2.2 + 1))))
  else
    some (.inr x2.2.1)
noncomputable def impl_slopes (a0 : (List ((Int × Int) × (Int × Int)))) : Option (List (Int × Int)) :=
  (loopO (impl_slopes_b1 a0) (false, [], 1)).bind fun y3 => impl_slopes_k1 y3
noncomputable def slices_IndexFunc_Limpl_Rat_impl_Rat_k1  (x1 : Unit) : Option Int :=
  some (-1)
noncomputable def slices_IndexFunc_Limpl_Rat_impl_Rat_b1 (a0 : (List (Int × Int))) (a1 : (Int × Int) → Option Bool) (x2 : Int) : Option (Int ⊕ (Int ⊕ Unit)) :=
  if (decide (x2 < (a0.length : Int))) = true then
    (idxO a0 x2).bind fun v5 =>
    (a1 v5).bind fun v6 =>
    if v6 = true then
      some (.inr (.inl x2))
    else
      some (.inl (w64 (x2 + 1)))
  else
    some (.inr (.inr ()))
noncomputable def slices_IndexFunc_Limpl_Rat_impl_Rat (a0 : (List (Int × Int))) (a1 : ((Int × Int) → Option Bool)) : Option Int :=
  (loopO (slices_IndexFunc_Limpl_Rat_impl_Rat_b1 a0 a1) 0).bind fun y3 => (Sum.elim (fun p => some p) (fun p => slices_IndexFunc_Limpl_Rat_impl_Rat_k1 p)) y3
noncomputable def slices_ContainsFunc_Limpl_Rat_impl_Rat (a0 : (List (Int × Int))) (a1 : ((Int × Int) → Option Bool)) : Option Bool :=
  (slices_IndexFunc_Limpl_Rat_impl_Rat a0 a1).bind fun v1 =>
  some (decide (v1 ≥ 0))
noncomputable def impl_isLapMap_1 (a0 : (Int × Int)) : Option Bool :=
  some (a0.1 == 0)
noncomputable def impl_isLapMap (a0 : (List ((Int × Int) × (Int × Int)))) : Option Bool :=
  (impl_isMap a0).bind fun v1 =>
  (if v1 = true then
      (impl_slopes a0).bind fun v2 =>
      (slices_ContainsFunc_Limpl_Rat_impl_Rat v2 (fun x0 => impl_isLapMap_1 x0)).bind fun v3 =>
      some (!v3)
    else
      some false).bind fun w4 =>
  some w4
noncomputable def impl_isStrict (a0 : (List ((Int × Int) × (Int × Int)))) : Option Bool :=
  (impl_isLapMap a0).bind fun v1 =>
  some v1
noncomputable def impl_sign (a0 : (Int × Int)) : Option Int :=
  (impl_zero).bind fun v1 =>
  (impl_compare a0 v1).bind fun v2 =>
  some v2
noncomputable def impl_laps_k1  (x1 : (List (List Int))) : Option (List (List Int)) :=
  some x1
noncomputable def impl_laps_b1 (v2 : (List (Int × Int))) (x3 : ((List (List Int)) × Int)) : Option (((List (List Int)) × Int) ⊕ (List (List Int))) :=
  if (decide (x3.2 < (v2.length : Int))) = true then
    (idxO v2 x3.2).bind fun v6 =>
    (if (decide ((w64 ((x3.1.length : Int) - 1)) ≥ 0)) = true then
        (idxO x3.1 (w64 ((x3.1.length : Int) - 1))).bind fun v7 =>
        (idxO v7 2).bind fun v8 =>
        (impl_sign v6).bind fun v9 =>
        some (v8 == v9)
      else
        some false).bind fun w10 =>
    if w10 = true then
      (idxO x3.1 (w64 ((x3.1.length : Int) - 1))).bind fun v12 =>
      (idxO v12 1).bind fun v13 =>
      some (.inl ((x3.1.set (Int.toNat (w64 ((x3.1.length : Int) - 1))) (v12.set (Int.toNat 1) (w64 (x3.2 + 1)))), (w64 (x3.2 + 1))))
    else
      (impl_sign v6).bind fun v14 =>
      (guardO (x3.1.length + ([[x3.2, (w64 (x3.2 + 1)), v14]]).length ≤ 1099511627776)).bind fun u15 =>
      some (.inl ((x3.1 ++ [[x3.2, (w64 (x3.2 + 1)), v14]]), (w64 (x3.2 + 1))))
  else
    some (.inr x3.1)
noncomputable def impl_laps (a0 : (List ((Int × Int) × (Int × Int)))) : Option (List (List Int)) :=
  (impl_slopes a0).bind fun v2 =>
  (loopO (impl_laps_b1 v2) ([], 0)).bind fun y4 => impl_laps_k1 y4
noncomputable def impl_turns_k1  (x1 : (List (Int × Int))) : Option (List (Int × Int)) :=
  some x1
noncomputable def impl_turns_b1 (a0 : (List ((Int × Int) × (Int × Int)))) (v2 : (List (List Int))) (x4 : ((List (Int × Int)) × Int)) : Option (((List (Int × Int)) × Int) ⊕ (List (Int × Int))) :=
  if (decide (x4.2 < ((v2.drop (Int.toNat 1)).length : Int))) = true then
    (idxO (v2.drop (Int.toNat 1)) x4.2).bind fun v7 =>
    (idxO v7 0).bind fun v8 =>
    (idxO a0 v8).bind fun v9 =>
    (guardO (x4.1.length + ([v9.1]).length ≤ 1099511627776)).bind fun u10 =>
    some (.inl ((x4.1 ++ [v9.1]), (w64 (x4.2 + 1))))
  else
    some (.inr x4.1)
noncomputable def impl_turns (a0 : (List ((Int × Int) × (Int × Int)))) : Option (List (Int × Int)) :=
  (impl_laps a0).bind fun v2 =>
  (guardO (0 ≤ 1 ∧ 1 ≤ (v2.length : Int))).bind fun u3 =>
  (loopO (impl_turns_b1 a0 v2) ([], 0)).bind fun y5 => impl_turns_k1 y5
noncomputable def impl_lesser (a0 : (Int × Int)) (a1 : (Int × Int)) : Option (Int × Int) :=
  (impl_less a1 a0).bind fun v1 =>
  if v1 = true then
    some a1
  else
    some a0
noncomputable def impl_greater (a0 : (Int × Int)) (a1 : (Int × Int)) : Option (Int × Int) :=
  (impl_less a0 a1).bind fun v1 =>
  if v1 = true then
    some a1
  else
    some a0
noncomputable def slices_Clone_Limpl_Rat_impl_Rat (a0 : (List (Int × Int))) : Option (List (Int × Int)) :=
  (guardO (a0.length ≤ 1099511627776)).bind fun u2 =>
  some a0
noncomputable def spec_imGood_k1 (a0 : (List ((Int × Int) × (Int × Int)))) (x3 : Unit) : Option Bool :=
  (idxO a0 0).bind fun v4 =>
  (spec_raInt 0).bind fun v5 =>
  (spec_raCmp v4.1 v5).bind fun v6 =>
  (if (v6 == 0) = true then
      (idxO a0 (w64 ((a0.length : Int) - 1))).bind fun v7 =>
      (spec_raInt 1).bind fun v8 =>
      (spec_raCmp v7.1 v8).bind fun v9 =>
      some (v9 == 0)
    else
      some false).bind fun w10 =>
  some w10
noncomputable def spec_imGood_b1 (a0 : (List ((Int × Int) × (Int × Int)))) (x11 : Int) : Option (Int ⊕ (Bool ⊕ Unit)) :=
  if (decide (x11 < (a0.length : Int))) = true then
    (idxO a0 x11).bind fun v14 =>
    (spec_imCoord v14.1).bind fun v15 =>
    (if (!v15) = true then
        some true
      else
        (spec_imCoord v14.2).bind fun v16 =>
        if (!v16) = true then
          some true
        else
          if (decide (x11 > 0)) = true then
            (idxO a0 (w64 (x11 - 1))).bind fun v17 =>
            (spec_raCmp v17.1 v14.1).bind fun v18 =>
            some (decide (v18 ≥ 0))
          else
            some false).bind fun w19 =>
    if w19 = true then
      some (.inr (.inl false))
    else
      some (.inl (w64 (x11 + 1)))
  else
    some (.inr (.inr ()))
noncomputable def spec_imGood (a0 : (List ((Int × Int) × (Int × Int)))) : Option Bool :=
  (spec_l1In (a0.length : Int) 2 12).bind fun v1 =>
  if (!v1) = true then
    some false
  else
    (loopO (spec_imGood_b1 a0) 0).bind fun y12 => (Sum.elim (fun p => some p) (fun p => spec_imGood_k1 a0 p)) y12
noncomputable def spec_imSlopes_k1  (x1 : (List (Int × Int))) : Option (List (Int × Int)) :=
  some x1
noncomputable def spec_imSlopes_b1 (a0 : (List ((Int × Int) × (Int × Int)))) (x2 : ((List (Int × Int)) × Int)) : Option (((List (Int × Int)) × Int) ⊕ (List (Int × Int))) :=
  if (decide (x2.2 < (a0.length : Int))) = true then
    (idxO a0 (w64 (x2.2 - 1))).bind fun v5 =>
    (idxO a0 x2.2).bind fun v6 =>
    (spec_imSlope v5 v6).bind fun v7 =>
    (guardO (x2.1.length + ([v7]).length ≤ 1099511627776)).bind fun u8 =>
    some (.inl ((x2.1 ++ [v7]), (w64 (x2.2 + 1))))
  else
    some (.inr x2.1)
noncomputable def spec_imSlopes (a0 : (List ((Int × Int) × (Int × Int)))) : Option (List (Int × Int)) :=
  (loopO (spec_imSlopes_b1 a0) ([], 1)).bind fun y3 => spec_imSlopes_k1 y3
noncomputable def spec_lpStrict_k1  (x1 : Unit) : Option Bool :=
  some true
noncomputable def spec_lpStrict_b1 (v2 : (List (Int × Int))) (x3 : Int) : Option (Int ⊕ (Bool ⊕ Unit)) :=
  if (decide (x3 < (v2.length : Int))) = true then
    (idxO v2 x3).bind fun v6 =>
    if (v6.1 == 0) = true then
      some (.inr (.inl false))
    else
      some (.inl (w64 (x3 + 1)))
  else
    some (.inr (.inr ()))
noncomputable def spec_lpStrict (a0 : (List ((Int × Int) × (Int × Int)))) : Option Bool :=
  (spec_imSlopes a0).bind fun v2 =>
  (loopO (spec_lpStrict_b1 v2) 0).bind fun y4 => (Sum.elim (fun p => some p) (fun p => spec_lpStrict_k1 p)) y4
noncomputable def spec_imLaps_k1  (x1 : (List (List Int))) : Option (List (List Int)) :=
  some x1
noncomputable def spec_imLaps_b1 (v2 : (List (Int × Int))) (x3 : ((List (List Int)) × Int)) : Option (((List (List Int)) × Int) ⊕ (List (List Int))) :=
  if (decide (x3.2 < (v2.length : Int))) = true then
    (idxO v2 x3.2).bind fun v6 =>
    (spec_l1Sign v6.1).bind fun v7 =>
    (if (decide ((x3.1.length : Int) > 0)) = true then
        (idxO x3.1 (w64 ((x3.1.length : Int) - 1))).bind fun v8 =>
        (idxO v8 2).bind fun v9 =>
        some (v9 == v7)
      else
        some false).bind fun w10 =>
    if w10 = true then
      (idxO x3.1 (w64 ((x3.1.length : Int) - 1))).bind fun v12 =>
      (idxO v12 1).bind fun v13 =>
      some (.inl ((x3.1.set (Int.toNat (w64 ((x3.1.length : Int) - 1))) (v12.set (Int.toNat 1) (w64 (x3.2 + 1)))), (w64 (x3.2 + 1))))
    else
      (guardO (x3.1.length + ([[x3.2, (w64 (x3.2 + 1)), v7]]).length ≤ 1099511627776)).bind fun u14 =>
      some (.inl ((x3.1 ++ [[x3.2, (w64 (x3.2 + 1)), v7]]), (w64 (x3.2 + 1))))
  else
    some (.inr x3.1)
noncomputable def spec_imLaps (a0 : (List ((Int × Int) × (Int × Int)))) : Option (List (List Int)) :=
  (spec_imSlopes a0).bind fun v2 =>
  (loopO (spec_imLaps_b1 v2) ([], 0)).bind fun y4 => spec_imLaps_k1 y4
noncomputable def spec_lpTurns_k1  (x1 : (List (Int × Int))) : Option (List (Int × Int)) :=
  some x1
noncomputable def spec_lpTurns_b1 (a0 : (List ((Int × Int) × (Int × Int)))) (v2 : (List (List Int))) (x4 : ((List (Int × Int)) × Int)) : Option (((List (Int × Int)) × Int) ⊕ (List (Int × Int))) :=
  if (decide (x4.2 < ((v2.drop (Int.toNat 1)).length : Int))) = true then
    (idxO (v2.drop (Int.toNat 1)) x4.2).bind fun v7 =>
    (idxO v7 0).bind fun v8 =>
    (idxO a0 v8).bind fun v9 =>
    (guardO (x4.1.length + ([v9.1]).length ≤ 1099511627776)).bind fun u10 =>
    some (.inl ((x4.1 ++ [v9.1]), (w64 (x4.2 + 1))))
  else
    some (.inr x4.1)
noncomputable def spec_lpTurns (a0 : (List ((Int × Int) × (Int × Int)))) : Option (List (Int × Int)) :=
  (spec_imLaps a0).bind fun v2 =>
  (guardO (0 ≤ 1 ∧ 1 ≤ (v2.length : Int))).bind fun u3 =>
  (loopO (spec_lpTurns_b1 a0 v2) ([], 0)).bind fun y5 => spec_lpTurns_k1 y5
noncomputable def spec_lpSum_k1  (x2 : (Int × Int)) : Option ((Int × Int) × Bool) :=
  some (x2, true)
noncomputable def spec_lpSum_b1 (a0 : (List (Int × Int))) (x3 : (Int × Int × Int)) : Option ((Int × Int × Int) ⊕ (((Int × Int) × Bool) ⊕ (Int × Int))) :=
  if (decide (x3.2.2 < (a0.length : Int))) = true then
    (idxO a0 x3.2.2).bind fun v6 =>
    (idxO a0 (w64 (x3.2.2 - 1))).bind fun v7 =>
    (spec_raSub v6 v7).bind fun v8 =>
    if (!v8.2) = true then
      some (.inr (.inl ((0, 0), false)))
    else
      (spec_l1Abs v8.1.1).bind fun v10 =>
      (spec_raAdd (x3.1, x3.2.1) (v10, v8.1.2)).bind fun v11 =>
      if (!v11.2) = true then
        some (.inr (.inl ((0, 0), false)))
      else
        some (.inl (v11.1.1, v11.1.2, (w64 (x3.2.2 + 1))))
  else
    some (.inr (.inr (x3.1, x3.2.1)))
noncomputable def spec_lpSum (a0 : (List (Int × Int))) : Option ((Int × Int) × Bool) :=
  (spec_raInt 0).bind fun v1 =>
  (loopO (spec_lpSum_b1 a0) (v1.1, v1.2, 1)).bind fun y4 => (Sum.elim (fun p => some p) (fun p => spec_lpSum_k1 p)) y4
noncomputable def impl_IsStrict (a0 : (List ((Int × Int) × (Int × Int)))) : Option (Bool × Bool) :=
  (impl_isMap a0).bind fun v1 =>
  if (!v1) = true then
    some (false, false)
  else
    (impl_isStrict a0).bind fun v3 =>
    some (v3, true)
noncomputable def impl_LapBound_k1  (x6 : Int) : Option (Int × Bool) :=
  some (x6, true)
noncomputable def impl_LapBound_b1 (a1 : Int) (v5 : (List (List Int))) (x7 : (Int × Int)) : Option ((Int × Int) ⊕ ((Int × Bool) ⊕ Int)) :=
  if (decide (x7.2 < a1)) = true then
    if (decide ((w64 (x7.1 * (v5.length : Int))) > 1000000000)) = true then
      some (.inr (.inl (0, false)))
    else
      some (.inl ((w64 (x7.1 * (v5.length : Int))), (w64 (x7.2 + 1))))
  else
    some (.inr (.inr x7.1))
noncomputable def impl_LapBound (a0 : (List ((Int × Int) × (Int × Int)))) (a1 : Int) : Option (Int × Bool) :=
  (impl_isMap a0).bind fun v1 =>
  (if (!v1) = true then
      some true
    else
      (impl_within a1 0 12).bind fun v2 =>
      some (!v2)).bind fun w3 =>
  if w3 = true then
    some (0, false)
  else
    (impl_laps a0).bind fun v5 =>
    (loopO (impl_LapBound_b1 a1 v5) (1, 0)).bind fun y8 => (Sum.elim (fun p => some p) (fun p => impl_LapBound_k1 p)) y8
noncomputable def spec_LapBound_k1  (x5 : Int) : Option (Int × Bool) :=
  some (x5, true)
noncomputable def spec_LapBound_b1 (a0 : (List ((Int × Int) × (Int × Int)))) (x6 : (Int × Int)) : Option ((Int × Int) ⊕ ((Int × Bool) ⊕ Int)) :=
  if (decide (x6.1 > 0)) = true then
    (spec_imLaps a0).bind fun v9 =>
    if (decide ((w64 (x6.2 * (v9.length : Int))) > 1000000000)) = true then
      some (.inr (.inl (0, false)))
    else
      some (.inl ((w64 (x6.1 - 1)), (w64 (x6.2 * (v9.length : Int)))))
  else
    some (.inr (.inr x6.2))
noncomputable def spec_LapBound (a0 : (List ((Int × Int) × (Int × Int)))) (a1 : Int) : Option (Int × Bool) :=
  (spec_imGood a0).bind fun v1 =>
  (if (!v1) = true then
      some true
    else
      (spec_l1In a1 0 12).bind fun v2 =>
      some (!v2)).bind fun w3 =>
  if w3 = true then
    some (0, false)
  else
    (loopO (spec_LapBound_b1 a0) (a1, 1)).bind fun y7 => (Sum.elim (fun p => some p) (fun p => spec_LapBound_k1 p)) y7
noncomputable def impl_calc_back (a0 : Bool) (a1 : ((Int × Int) × (Int × Int))) (a2 : ((Int × Int) × (Int × Int))) (a3 : (Int × Int)) : Option ((Int × Int) × Bool) :=
  (impl_calc_sub a0 a3 a1.2).bind fun v1 =>
  (impl_calc_slope v1.2 a1 a2).bind fun v2 =>
  (impl_calc_div v2.2 v1.1 v2.1).bind fun v3 =>
  (impl_calc_add v3.2 a1.1 v3.1).bind fun v4 =>
  some v4
noncomputable def impl_calc_distance_k1 (a0 : Bool) (x1 : (Int × Int × Int × Int)) : Option ((Int × Int) × Bool) :=
  (impl_calc_sub a0 (x1.1, x1.2.1) x1.2.2).bind fun v2 =>
  some v2
noncomputable def impl_calc_distance (a0 : Bool) (a1 : (Int × Int)) (a2 : (Int × Int)) : Option ((Int × Int) × Bool) :=
  (impl_less a1 a2).bind fun v3 =>
  if v3 = true then
    impl_calc_distance_k1 a0 (a2.1, a2.2, a1.1, a1.2)
  else
    impl_calc_distance_k1 a0 (a1.1, a1.2, a2.1, a2.2)
noncomputable def impl_variation_k1  (x2 : (Bool × Int × Int)) : Option ((Int × Int) × Bool) :=
  if x2.1 = true then
    some ((0, 0), false)
  else
    some (x2.2, true)
noncomputable def impl_variation_b1 (a0 : (List (Int × Int))) (x4 : (Bool × Int × Int × Int)) : Option ((Bool × Int × Int × Int) ⊕ (Bool × Int × Int)) :=
  if (decide (x4.2.2.2 < (a0.length : Int))) = true then
    (idxO a0 (w64 (x4.2.2.2 - 1))).bind fun v7 =>
    (idxO a0 x4.2.2.2).bind fun v8 =>
    (impl_calc_distance x4.1 v7 v8).bind fun v9 =>
    (impl_calc_add v9.2 (x4.2.1, x4.2.2.1) v9.1).bind fun v10 =>
    some (.inl (v10.2, v10.1.1, v10.1.2, (w64 (x4.2.2.2 + 1))))
  else
    some (.inr (x4.1, x4.2.1, x4.2.2.1))
noncomputable def impl_variation (a0 : (List (Int × Int))) : Option ((Int × Int) × Bool) :=
  (impl_zero).bind fun v1 =>
  (loopO (impl_variation_b1 a0) (false, v1.1, v1.2, 1)).bind fun y5 => impl_variation_k1 y5
noncomputable def impl_VariationOf_k1  (x3 : (List (Int × Int))) : Option ((Int × Int) × Bool) :=
  (impl_variation x3).bind fun v4 =>
  some v4
noncomputable def impl_VariationOf_b1 (a0 : (List ((Int × Int) × (Int × Int)))) (x5 : ((List (Int × Int)) × Int)) : Option (((List (Int × Int)) × Int) ⊕ (List (Int × Int))) :=
  if (decide (x5.2 < (a0.length : Int))) = true then
    (idxO a0 x5.2).bind fun v8 =>
    (guardO (x5.1.length + ([v8.2]).length ≤ 1099511627776)).bind fun u9 =>
    some (.inl ((x5.1 ++ [v8.2]), (w64 (x5.2 + 1))))
  else
    some (.inr x5.1)
noncomputable def impl_VariationOf (a0 : (List ((Int × Int) × (Int × Int)))) : Option ((Int × Int) × Bool) :=
  (impl_isMap a0).bind fun v1 =>
  if (!v1) = true then
    some ((0, 0), false)
  else
    (loopO (impl_VariationOf_b1 a0) ([], 0)).bind fun y6 => impl_VariationOf_k1 y6
noncomputable def spec_VariationOf_k1  (x3 : (List (Int × Int))) : Option ((Int × Int) × Bool) :=
  (spec_lpSum x3).bind fun v4 =>
  some v4
noncomputable def spec_VariationOf_b1 (a0 : (List ((Int × Int) × (Int × Int)))) (x5 : ((List (Int × Int)) × Int)) : Option (((List (Int × Int)) × Int) ⊕ (List (Int × Int))) :=
  if (decide (x5.2 < (a0.length : Int))) = true then
    (idxO a0 x5.2).bind fun v8 =>
    (guardO (x5.1.length + ([v8.2]).length ≤ 1099511627776)).bind fun u9 =>
    some (.inl ((x5.1 ++ [v8.2]), (w64 (x5.2 + 1))))
  else
    some (.inr x5.1)
noncomputable def spec_VariationOf (a0 : (List ((Int × Int) × (Int × Int)))) : Option ((Int × Int) × Bool) :=
  (spec_imGood a0).bind fun v1 =>
  if (!v1) = true then
    some ((0, 0), false)
  else
    (loopO (spec_VariationOf_b1 a0) ([], 0)).bind fun y6 => spec_VariationOf_k1 y6
noncomputable def impl_FullLaps_k1  (x3 : Int) : Option (Int × Bool) :=
  some (x3, true)
noncomputable def impl_FullLaps_b1 (a0 : (List ((Int × Int) × (Int × Int)))) (v4 : (List (List Int))) (x5 : (Int × Int)) : Option ((Int × Int) ⊕ Int) :=
  if (decide (x5.2 < (v4.length : Int))) = true then
    (idxO v4 x5.2).bind fun v8 =>
    (idxO v8 0).bind fun v9 =>
    (idxO a0 v9).bind fun v10 =>
    (idxO v8 1).bind fun v11 =>
    (idxO a0 v11).bind fun v12 =>
    (impl_lesser v10.2 v12.2).bind fun v13 =>
    (impl_zero).bind fun v14 =>
    (if ((v13.1 == v14.1) && (v13.2 == v14.2)) = true then
        (impl_greater v10.2 v12.2).bind fun v15 =>
        (impl_oneRat).bind fun v16 =>
        some ((v15.1 == v16.1) && (v15.2 == v16.2))
      else
        some false).bind fun w17 =>
    if w17 = true then
      some (.inl ((w64 (x5.1 + 1)), (w64 (x5.2 + 1))))
    else
      some (.inl (x5.1, (w64 (x5.2 + 1))))
  else
    some (.inr x5.1)
noncomputable def impl_FullLaps (a0 : (List ((Int × Int) × (Int × Int)))) : Option (Int × Bool) :=
  (impl_isMap a0).bind fun v1 =>
  if (!v1) = true then
    some (0, false)
  else
    (impl_laps a0).bind fun v4 =>
    (loopO (impl_FullLaps_b1 a0 v4) (0, 0)).bind fun y6 => impl_FullLaps_k1 y6
noncomputable def spec_FullLaps_k1  (x3 : Int) : Option (Int × Bool) :=
  some (x3, true)
noncomputable def spec_FullLaps_b1 (a0 : (List ((Int × Int) × (Int × Int)))) (v4 : (List (List Int))) (x5 : (Int × Int)) : Option ((Int × Int) ⊕ Int) :=
  if (decide (x5.2 < (v4.length : Int))) = true then
    (idxO v4 x5.2).bind fun v8 =>
    (idxO v8 0).bind fun v9 =>
    (idxO a0 v9).bind fun v10 =>
    (idxO v8 1).bind fun v11 =>
    (idxO a0 v11).bind fun v12 =>
    (spec_raInt 0).bind fun v13 =>
    (if ((v10.2.1 == v13.1) && (v10.2.2 == v13.2)) = true then
        (spec_raInt 1).bind fun v14 =>
        if ((v12.2.1 == v14.1) && (v12.2.2 == v14.2)) = true then
          some true
        else
          (spec_raInt 1).bind fun v15 =>
          if ((v10.2.1 == v15.1) && (v10.2.2 == v15.2)) = true then
            (spec_raInt 0).bind fun v16 =>
            some ((v12.2.1 == v16.1) && (v12.2.2 == v16.2))
          else
            some false
      else
        (spec_raInt 1).bind fun v14 =>
        if ((v10.2.1 == v14.1) && (v10.2.2 == v14.2)) = true then
          (spec_raInt 0).bind fun v15 =>
          some ((v12.2.1 == v15.1) && (v12.2.2 == v15.2))
        else
          some false).bind fun w17 =>
    if w17 = true then
      some (.inl ((w64 (x5.1 + 1)), (w64 (x5.2 + 1))))
    else
      some (.inl (x5.1, (w64 (x5.2 + 1))))
  else
    some (.inr x5.1)
noncomputable def spec_FullLaps (a0 : (List ((Int × Int) × (Int × Int)))) : Option (Int × Bool) :=
  (spec_imGood a0).bind fun v1 =>
  if (!v1) = true then
    some (0, false)
  else
    (spec_imLaps a0).bind fun v4 =>
    (loopO (spec_FullLaps_b1 a0 v4) (0, 0)).bind fun y6 => spec_FullLaps_k1 y6
noncomputable def impl_isUnimodal (a0 : (List ((Int × Int) × (Int × Int)))) : Option Bool :=
  (impl_isStrict a0).bind fun v1 =>
  if (!v1) = true then
    some false
  else
    (impl_laps a0).bind fun v3 =>
    (if ((v3.length : Int) == 2) = true then
        (idxO v3 0).bind fun v4 =>
        (idxO v4 2).bind fun v5 =>
        some (v5 == 1)
      else
        some false).bind fun w6 =>
    some w6
noncomputable def impl_IsUnimodal (a0 : (List ((Int × Int) × (Int × Int)))) : Option (Bool × Bool) :=
  (impl_isStrict a0).bind fun v1 =>
  if (!v1) = true then
    some (false, false)
  else
    (impl_isUnimodal a0).bind fun v3 =>
    some (v3, true)
noncomputable def spec_IsUnimodal (a0 : (List ((Int × Int) × (Int × Int)))) : Option (Bool × Bool) :=
  (spec_imGood a0).bind fun v1 =>
  (if (!v1) = true then
      some true
    else
      (spec_lpStrict a0).bind fun v2 =>
      some (!v2)).bind fun w3 =>
  if w3 = true then
    some (false, false)
  else
    (spec_imLaps a0).bind fun v5 =>
    (if ((v5.length : Int) == 2) = true then
        (idxO v5 0).bind fun v6 =>
        (idxO v6 2).bind fun v7 =>
        some (v7 == 1)
      else
        some false).bind fun w8 =>
    some (w8, true)
noncomputable def spec_IsStrict (a0 : (List ((Int × Int) × (Int × Int)))) : Option (Bool × Bool) :=
  (spec_imGood a0).bind fun v1 =>
  if (!v1) = true then
    some (false, false)
  else
    (spec_lpStrict a0).bind fun v3 =>
    some (v3, true)
noncomputable def spec_imBack (a0 : ((Int × Int) × (Int × Int))) (a1 : ((Int × Int) × (Int × Int))) (a2 : (Int × Int)) : Option ((Int × Int) × Bool) :=
  (spec_raSub a2 a0.2).bind fun v1 =>
  if (!v1.2) = true then
    some ((0, 0), false)
  else
    (spec_imSlope a0 a1).bind fun v3 =>
    (spec_raDiv v1.1 v3).bind fun v4 =>
    if (!v4.2) = true then
      some ((0, 0), false)
    else
      (spec_raAdd a0.1 v4.1).bind fun v6 =>
      some v6
noncomputable def laws_szPointS (a0 : (List ((Int × Int) × (Int × Int)))) (a1 : Int) : Option Int :=
  if (decide ((w64 (a1 - (a0.length : Int))) < 0)) = true then
    some (-1)
  else
    some (w64 (a1 - (a0.length : Int)))
noncomputable def laws_szLift (a0 : (List ((Int × Int) × (Int × Int)))) (a1 : Int) : Option Int :=
  (laws_szPointS a0 a1).bind fun v1 =>
  if (decide (v1 < 0)) = true then
    some (-1)
  else
    some v1
noncomputable def laws_toPoint (a0 : ((Int × Int) × (Int × Int))) : Option ((Int × Int) × (Int × Int)) :=
  (laws_toRat a0.1).bind fun v1 =>
  (laws_toRat a0.2).bind fun v2 =>
  some (v1, v2)
noncomputable def laws_toPointS_k1  (x2 : (List ((Int × Int) × (Int × Int)))) : Option (List ((Int × Int) × (Int × Int))) :=
  some x2
noncomputable def laws_toPointS_b1 (a0 : (List ((Int × Int) × (Int × Int)))) (x3 : ((List ((Int × Int) × (Int × Int))) × Int)) : Option (((List ((Int × Int) × (Int × Int))) × Int) ⊕ (List ((Int × Int) × (Int × Int)))) :=
  if (decide (x3.2 < (a0.length : Int))) = true then
    (idxO a0 x3.2).bind fun v6 =>
    (laws_toPoint v6).bind fun v7 =>
    (idxO x3.1 x3.2).bind fun v8 =>
    some (.inl ((x3.1.set (Int.toNat x3.2) v7), (w64 (x3.2 + 1))))
  else
    some (.inr x3.1)
noncomputable def laws_toPointS (a0 : (List ((Int × Int) × (Int × Int)))) : Option (List ((Int × Int) × (Int × Int))) :=
  (guardO (0 ≤ (a0.length : Int) ∧ (a0.length : Int) ≤ 1099511627776)).bind fun u1 =>
  (loopO (laws_toPointS_b1 a0) ((List.replicate (Int.toNat (a0.length : Int)) ((0, 0), (0, 0))), 0)).bind fun y4 => laws_toPointS_k1 y4
noncomputable def laws_toLift (a0 : (List ((Int × Int) × (Int × Int)))) : Option (List ((Int × Int) × (Int × Int))) :=
  (laws_toPointS a0).bind fun v1 =>
  some v1
noncomputable def spec_LiftAt (a0 : (List ((Int × Int) × (Int × Int)))) (a1 : (Int × Int)) : Option ((Int × Int) × Bool) :=
  (spec_liGood a0).bind fun v1 =>
  (if (!v1) = true then
      some true
    else
      (spec_liNear a1).bind fun v2 =>
      some (!v2)).bind fun w3 =>
  if w3 = true then
    some ((0, 0), false)
  else
    (spec_liAt a0 a1).bind fun v5 =>
    some v5
noncomputable def impl_LiftAt (a0 : (List ((Int × Int) × (Int × Int)))) (a1 : (Int × Int)) : Option ((Int × Int) × Bool) :=
  (impl_isLift a0).bind fun v1 =>
  (if (!v1) = true then
      some true
    else
      (impl_isFar a1).bind fun v2 =>
      some (!v2)).bind fun w3 =>
  if w3 = true then
    some ((0, 0), false)
  else
    (impl_calc_lift false a0 a1).bind fun v5 =>
    if v5.2 = true then
      some ((0, 0), false)
    else
      some (v5.1, true)
noncomputable def laws_eqPoint (a0 : ((Int × Int) × (Int × Int))) (a1 : ((Int × Int) × (Int × Int))) : Option Bool :=
  (laws_eqRat a0.1 a1.1).bind fun v1 =>
  if (!v1) = true then
    some false
  else
    (laws_eqRat a0.2 a1.2).bind fun v3 =>
    if (!v3) = true then
      some false
    else
      some true
noncomputable def laws_eqPointS_k1  (x2 : Unit) : Option Bool :=
  some true
noncomputable def laws_eqPointS_b1 (a0 : (List ((Int × Int) × (Int × Int)))) (a1 : (List ((Int × Int) × (Int × Int)))) (x3 : Int) : Option (Int ⊕ (Bool ⊕ Unit)) :=
  if (decide (x3 < (a0.length : Int))) = true then
    (idxO a0 x3).bind fun v6 =>
    (idxO a1 x3).bind fun v7 =>
    (laws_eqPoint v6 v7).bind fun v8 =>
    if (!v8) = true then
      some (.inr (.inl false))
    else
      some (.inl (w64 (x3 + 1)))
  else
    some (.inr (.inr ()))
noncomputable def laws_eqPointS (a0 : (List ((Int × Int) × (Int × Int)))) (a1 : (List ((Int × Int) × (Int × Int)))) : Option Bool :=
  if ((a0.length : Int) != (a1.length : Int)) = true then
    some false
  else
    (loopO (laws_eqPointS_b1 a0 a1) 0).bind fun y4 => (Sum.elim (fun p => some p) (fun p => laws_eqPointS_k1 p)) y4
noncomputable def laws_eqLift (a0 : (List ((Int × Int) × (Int × Int)))) (a1 : (List ((Int × Int) × (Int × Int)))) : Option Bool :=
  (laws_eqPointS a0 a1).bind fun v1 =>
  if (!v1) = true then
    some false
  else
    some true
noncomputable def laws_FnExactLiftAt (a0 : (List ((Int × Int) × (Int × Int)))) (a1 : (Int × Int)) : Option Bool :=
  (laws_szLift a0 1048576).bind fun v1 =>
  if (decide (v1 < 0)) = true then
    some true
  else
    (laws_toLift a0).bind fun v3 =>
    (laws_toRat a1).bind fun v4 =>
    (spec_LiftAt v3 v4).bind fun v5 =>
    (laws_toLift a0).bind fun v6 =>
    (laws_toRat a1).bind fun v7 =>
    (impl_LiftAt v6 v7).bind fun v8 =>
    (laws_eqRat v8.1 v5.1).bind fun v9 =>
    if ((!v9) || (!(v8.2 == v5.2))) = true then
      some false
    else
      (laws_toLift a0).bind fun v11 =>
      (laws_eqLift v6 v11).bind fun v12 =>
      if (!v12) = true then
        some false
      else
        some true
noncomputable def spec_liPart (a0 : (Int × Int)) : Option (Int × Int) :=
  (spec_raFloor a0).bind fun v1 =>
  some ((w64 (a0.1 - (w64 (v1 * a0.2)))), a0.2)
noncomputable def spec_LiftBefore_k3 (x8 : Int) (x13 : (Int × Int)) : Option ((Int × Int) × Bool) :=
  (spec_raInt x8).bind fun v14 =>
  (spec_raAdd x13 v14).bind fun v15 =>
  some v15
noncomputable def spec_LiftBefore_k4 (a0 : (List ((Int × Int) × (Int × Int)))) (x8 : Int) (x12 : (Int × Int)) (x17 : Int) : Option ((Int × Int) × Bool) :=
  if (decide (x17 < (w64 ((a0.length : Int) - 1)))) = true then
    (idxO a0 x17).bind fun v19 =>
    (spec_liPlus v19.1 (-1)).bind fun v20 =>
    spec_LiftBefore_k3 x8 v20
  else
    spec_LiftBefore_k3 x8 x12
noncomputable def spec_LiftBefore_b1 (a0 : (List ((Int × Int) × (Int × Int)))) (x21 : Int) : Option (Int ⊕ Int) :=
  (if (decide (x21 > 0)) = true then
      (idxO a0 (w64 (x21 - 1))).bind fun v23 =>
      (idxO a0 x21).bind fun v24 =>
      some ((v23.2.1 == v24.2.1) && (v23.2.2 == v24.2.2))
    else
      some false).bind fun w25 =>
  if w25 = true then
    some (.inl (w64 (x21 - 1)))
  else
    some (.inr x21)
noncomputable def spec_LiftBefore_k2 (a0 : (List ((Int × Int) × (Int × Int)))) (v5 : ((Int × Int) × (Int × Int))) (x8 : Int) (x12 : (Int × Int)) : Option ((Int × Int) × Bool) :=
  if ((x12.1 == v5.1.1) && (x12.2 == v5.1.2)) = true then
    (loopO (spec_LiftBefore_b1 a0) (w64 ((a0.length : Int) - 1))).bind fun y22 => spec_LiftBefore_k4 a0 x8 x12 y22
  else
    spec_LiftBefore_k3 x8 x12
noncomputable def spec_LiftBefore_b2 (a0 : (List ((Int × Int) × (Int × Int)))) (v10 : ((Int × Int) × Bool)) (x27 : (Int × Int × Int)) : Option ((Int × Int × Int) ⊕ (((Int × Int) × Bool) ⊕ (Int × Int))) :=
  if (decide (x27.2.2 < (a0.length : Int))) = true then
    (idxO a0 (w64 (x27.2.2 - 1))).bind fun v30 =>
    (idxO a0 x27.2.2).bind fun v31 =>
    (spec_raCmp v30.2 v10.1).bind fun v32 =>
    (if (decide (v32 < 0)) = true then
        (spec_raCmp v10.1 v31.2).bind fun v33 =>
        some (decide (v33 ≤ 0))
      else
        some false).bind fun w34 =>
    if w34 = true then
      (spec_imBack v30 v31 v10.1).bind fun v36 =>
      if (!v36.2) = true then
        some (.inr (.inl ((0, 0), false)))
      else
        some (.inl (v36.1.1, v36.1.2, (w64 (x27.2.2 + 1))))
    else
      some (.inl (x27.1, x27.2.1, (w64 (x27.2.2 + 1))))
  else
    some (.inr (.inr (x27.1, x27.2.1)))
noncomputable def spec_LiftBefore_k1 (a0 : (List ((Int × Int) × (Int × Int)))) (a1 : (Int × Int)) (v5 : ((Int × Int) × (Int × Int))) (x8 : Int) : Option ((Int × Int) × Bool) :=
  (spec_raInt x8).bind fun v9 =>
  (spec_raSub a1 v9).bind fun v10 =>
  if (!v10.2) = true then
    some ((0, 0), false)
  else
    (loopO (spec_LiftBefore_b2 a0 v10) (v5.1.1, v5.1.2, 1)).bind fun y28 => (Sum.elim (fun p => some p) (fun p => spec_LiftBefore_k2 a0 v5 x8 p)) y28
noncomputable def spec_LiftBefore (a0 : (List ((Int × Int) × (Int × Int)))) (a1 : (Int × Int)) : Option ((Int × Int) × Bool) :=
  (spec_liGood a0).bind fun v1 =>
  (if (!v1) = true then
      some true
    else
      (spec_liNear a1).bind fun v2 =>
      some (!v2)).bind fun w3 =>
  if w3 = true then
    some ((0, 0), false)
  else
    (idxO a0 0).bind fun v5 =>
    (spec_raFloor a1).bind fun v6 =>
    (spec_raFloor v5.2).bind fun v7 =>
    (spec_liPart a1).bind fun v38 =>
    (spec_liPart v5.2).bind fun v39 =>
    (spec_raCmp v38 v39).bind fun v40 =>
    if (decide (v40 < 0)) = true then
      spec_LiftBefore_k1 a0 a1 v5 (w64 ((w64 (v6 - v7)) - 1))
    else
      spec_LiftBefore_k1 a0 a1 v5 (w64 (v6 - v7))
noncomputable def impl_fractionLeft (a0 : (Int × Int)) : Option (Int × Int) :=
  (impl_floor a0).bind fun v1 =>
  some ((w64 (a0.1 - (w64 (v1 * a0.2)))), a0.2)
noncomputable def impl_calc_liftBefore_1 (a0 : ((Int × Int) × (Int × Int))) (c0 : (Int × Int)) : Option Bool :=
  (impl_less a0.2 c0).bind fun v1 =>
  some (!v1)
noncomputable def impl_calc_liftBefore_k2 (a1 : (List ((Int × Int) × (Int × Int)))) (v4 : (Int × Int)) (x5 : Int) (v6 : ((Int × Int) × Bool)) (x8 : Unit) : Option ((Int × Int) × Bool) :=
  (slices_IndexFunc_Limpl_Point_impl_Point a1 (fun x0 => impl_calc_liftBefore_1 x0 v6.1)).bind fun v9 =>
  (idxO a1 (w64 (v9 - 1))).bind fun v10 =>
  (idxO a1 v9).bind fun v11 =>
  (impl_calc_back v6.2 v10 v11 v6.1).bind fun v12 =>
  (impl_calc_add v12.2 v12.1 (x5, v4.2)).bind fun v13 =>
  some v13
noncomputable def impl_calc_liftBefore_k3 (a1 : (List ((Int × Int) × (Int × Int)))) (v4 : (Int × Int)) (x5 : Int) (v6 : ((Int × Int) × Bool)) (x15 : Int) : Option ((Int × Int) × Bool) :=
  (idxO a1 x15).bind fun v16 =>
  (impl_oneRat).bind fun v17 =>
  (impl_calc_sub v6.2 v16.1 v17).bind fun v18 =>
  (impl_calc_add v18.2 v18.1 (x5, v4.2)).bind fun v19 =>
  some v19
noncomputable def impl_calc_liftBefore_b1 (a1 : (List ((Int × Int) × (Int × Int)))) (x20 : Int) : Option (Int ⊕ Int) :=
  (idxO a1 (w64 (x20 - 1))).bind fun v22 =>
  (idxO a1 x20).bind fun v23 =>
  if ((v22.2.1 == v23.2.1) && (v22.2.2 == v23.2.2)) = true then
    some (.inl (w64 (x20 - 1)))
  else
    some (.inr x20)
noncomputable def impl_calc_liftBefore_k1 (a0 : Bool) (a1 : (List ((Int × Int) × (Int × Int)))) (a2 : (Int × Int)) (v1 : ((Int × Int) × (Int × Int))) (v4 : (Int × Int)) (x5 : Int) : Option ((Int × Int) × Bool) :=
  (impl_calc_sub a0 a2 (x5, v4.2)).bind fun v6 =>
  if v6.2 = true then
    some ((0, 0), v6.2)
  else
    if ((v6.1.1 == v1.2.1) && (v6.1.2 == v1.2.2)) = true then
      (loopO (impl_calc_liftBefore_b1 a1) (w64 ((a1.length : Int) - 1))).bind fun y21 => impl_calc_liftBefore_k3 a1 v4 x5 v6 y21
    else
      impl_calc_liftBefore_k2 a1 v4 x5 v6 ()
noncomputable def impl_calc_liftBefore (a0 : Bool) (a1 : (List ((Int × Int) × (Int × Int)))) (a2 : (Int × Int)) : Option ((Int × Int) × Bool) :=
  (idxO a1 0).bind fun v1 =>
  (impl_floor a2).bind fun v2 =>
  (impl_floor v1.2).bind fun v3 =>
  (impl_whole (w64 (v2 - v3))).bind fun v4 =>
  (impl_fractionLeft a2).bind fun v25 =>
  (impl_fractionLeft v1.2).bind fun v26 =>
  (impl_less v25 v26).bind fun v27 =>
  if v27 = true then
    impl_calc_liftBefore_k1 a0 a1 a2 v1 v4 (w64 (v4.1 - 1))
  else
    impl_calc_liftBefore_k1 a0 a1 a2 v1 v4 v4.1
noncomputable def impl_LiftBefore (a0 : (List ((Int × Int) × (Int × Int)))) (a1 : (Int × Int)) : Option ((Int × Int) × Bool) :=
  (impl_isLift a0).bind fun v1 =>
  (if (!v1) = true then
      some true
    else
      (impl_isFar a1).bind fun v2 =>
      some (!v2)).bind fun w3 =>
  if w3 = true then
    some ((0, 0), false)
  else
    (impl_calc_liftBefore false a0 a1).bind fun v5 =>
    if v5.2 = true then
      some ((0, 0), false)
    else
      some (v5.1, true)
noncomputable def laws_FnExactLiftBefore (a0 : (List ((Int × Int) × (Int × Int)))) (a1 : (Int × Int)) : Option Bool :=
  (laws_szLift a0 1048576).bind fun v1 =>
  if (decide (v1 < 0)) = true then
    some true
  else
    (laws_toLift a0).bind fun v3 =>
    (laws_toRat a1).bind fun v4 =>
    (spec_LiftBefore v3 v4).bind fun v5 =>
    (laws_toLift a0).bind fun v6 =>
    (laws_toRat a1).bind fun v7 =>
    (impl_LiftBefore v6 v7).bind fun v8 =>
    (laws_eqRat v8.1 v5.1).bind fun v9 =>
    if ((!v9) || (!(v8.2 == v5.2))) = true then
      some false
    else
      (laws_toLift a0).bind fun v11 =>
      (laws_eqLift v6 v11).bind fun v12 =>
      if (!v12) = true then
        some false
      else
        some true
noncomputable def laws_eqRatS_k1  (x2 : Unit) : Option Bool :=
  some true
noncomputable def laws_eqRatS_b1 (a0 : (List (Int × Int))) (a1 : (List (Int × Int))) (x3 : Int) : Option (Int ⊕ (Bool ⊕ Unit)) :=
  if (decide (x3 < (a0.length : Int))) = true then
    (idxO a0 x3).bind fun v6 =>
    (idxO a1 x3).bind fun v7 =>
    (laws_eqRat v6 v7).bind fun v8 =>
    if (!v8) = true then
      some (.inr (.inl false))
    else
      some (.inl (w64 (x3 + 1)))
  else
    some (.inr (.inr ()))
noncomputable def laws_eqRatS (a0 : (List (Int × Int))) (a1 : (List (Int × Int))) : Option Bool :=
  if ((a0.length : Int) != (a1.length : Int)) = true then
    some false
  else
    (loopO (laws_eqRatS_b1 a0 a1) 0).bind fun y4 => (Sum.elim (fun p => some p) (fun p => laws_eqRatS_k1 p)) y4
noncomputable def laws_markPointS_k1  (x1 : ((List ((Int × Int) × (Int × Int))) × Int)) : Option (Int × (List ((Int × Int) × (Int × Int)))) :=
  some (x1.2, x1.1)
noncomputable def laws_markPointS_b1  (x2 : ((List ((Int × Int) × (Int × Int))) × Int × Int)) : Option (((List ((Int × Int) × (Int × Int))) × Int × Int) ⊕ ((List ((Int × Int) × (Int × Int))) × Int)) :=
  if (decide (x2.2.2 < (x2.1.length : Int))) = true then
    (idxO x2.1 x2.2.2).bind fun v5 =>
    (idxO (x2.1.set (Int.toNat x2.2.2) ((x2.2.1, v5.1.2), v5.2)) x2.2.2).bind fun v6 =>
    (idxO ((x2.1.set (Int.toNat x2.2.2) ((x2.2.1, v5.1.2), v5.2)).set (Int.toNat x2.2.2) ((v6.1.1, (w64 (x2.2.1 + 1))), v6.2)) x2.2.2).bind fun v7 =>
    (idxO (((x2.1.set (Int.toNat x2.2.2) ((x2.2.1, v5.1.2), v5.2)).set (Int.toNat x2.2.2) ((v6.1.1, (w64 (x2.2.1 + 1))), v6.2)).set (Int.toNat x2.2.2) (v7.1, ((w64 ((w64 (x2.2.1 + 1)) + 1)), v7.2.2))) x2.2.2).bind fun v8 =>
    some (.inl (((((x2.1.set (Int.toNat x2.2.2) ((x2.2.1, v5.1.2), v5.2)).set (Int.toNat x2.2.2) ((v6.1.1, (w64 (x2.2.1 + 1))), v6.2)).set (Int.toNat x2.2.2) (v7.1, ((w64 ((w64 (x2.2.1 + 1)) + 1)), v7.2.2))).set (Int.toNat x2.2.2) (v8.1, (v8.2.1, (w64 ((w64 ((w64 (x2.2.1 + 1)) + 1)) + 1))))), (w64 ((w64 ((w64 ((w64 (x2.2.1 + 1)) + 1)) + 1)) + 1)), (w64 (x2.2.2 + 1))))
  else
    some (.inr (x2.1, x2.2.1))
noncomputable def laws_markPointS (a0 : (List ((Int × Int) × (Int × Int)))) (a1 : Int) : Option (Int × (List ((Int × Int) × (Int × Int)))) :=
  (loopO laws_markPointS_b1 (a0, a1, 0)).bind fun y3 => laws_markPointS_k1 y3
noncomputable def laws_markRatS_k1  (x1 : ((List (Int × Int)) × Int)) : Option (Int × (List (Int × Int))) :=
  some (x1.2, x1.1)
noncomputable def laws_markRatS_b1  (x2 : ((List (Int × Int)) × Int × Int)) : Option (((List (Int × Int)) × Int × Int) ⊕ ((List (Int × Int)) × Int)) :=
  if (decide (x2.2.2 < (x2.1.length : Int))) = true then
    (idxO x2.1 x2.2.2).bind fun v5 =>
    (idxO (x2.1.set (Int.toNat x2.2.2) (x2.2.1, v5.2)) x2.2.2).bind fun v6 =>
    some (.inl (((x2.1.set (Int.toNat x2.2.2) (x2.2.1, v5.2)).set (Int.toNat x2.2.2) (v6.1, (w64 (x2.2.1 + 1)))), (w64 ((w64 (x2.2.1 + 1)) + 1)), (w64 (x2.2.2 + 1))))
  else
    some (.inr (x2.1, x2.2.1))
noncomputable def laws_markRatS (a0 : (List (Int × Int))) (a1 : Int) : Option (Int × (List (Int × Int))) :=
  (loopO laws_markRatS_b1 (a0, a1, 0)).bind fun y3 => laws_markRatS_k1 y3
noncomputable def laws_heldRatS_k1  (x1 : Int) : Option Int :=
  some x1
noncomputable def laws_heldRatS_b1 (a0 : (List (Int × Int))) (x2 : (Int × Int)) : Option ((Int × Int) ⊕ (Int ⊕ Int)) :=
  if (decide (x2.2 < (a0.length : Int))) = true then
    (idxO a0 x2.2).bind fun v5 =>
    if (v5.1 != x2.1) = true then
      some (.inr (.inl (-1)))
    else
      if (v5.2 != (w64 (x2.1 + 1))) = true then
        some (.inr (.inl (-1)))
      else
        some (.inl ((w64 ((w64 (x2.1 + 1)) + 1)), (w64 (x2.2 + 1))))
  else
    some (.inr (.inr x2.1))
noncomputable def laws_heldRatS (a0 : (List (Int × Int))) (a1 : Int) : Option Int :=
  (loopO (laws_heldRatS_b1 a0) (a1, 0)).bind fun y3 => (Sum.elim (fun p => some p) (fun p => laws_heldRatS_k1 p)) y3
noncomputable def spec_knLaps (a0 : (List ((Int × Int) × (Int × Int)))) : Option Bool :=
  (spec_imGood a0).bind fun v1 =>
  (if (!v1) = true then
      some true
    else
      (spec_lpStrict a0).bind fun v2 =>
      some (!v2)).bind fun w3 =>
  if w3 = true then
    some false
  else
    (spec_imLaps a0).bind fun v5 =>
    (if ((v5.length : Int) == 2) = true then
        (idxO v5 0).bind fun v6 =>
        (idxO v6 2).bind fun v7 =>
        some (v7 == 1)
      else
        some false).bind fun w8 =>
    some w8
noncomputable def spec_knLength (a0 : Int) : Option Bool :=
  (spec_l1In a0 1 30).bind fun v1 =>
  some v1
noncomputable def spec_knCentre (a0 : (List ((Int × Int) × (Int × Int)))) : Option (Int × Int) :=
  (spec_lpTurns a0).bind fun v1 =>
  (idxO v1 0).bind fun v2 =>
  some v2
noncomputable def spec_orRun_k1  (x1 : (List (Int × Int))) : Option (List (Int × Int)) :=
  some x1
noncomputable def spec_orRun_b1 (a0 : (List ((Int × Int) × (Int × Int)))) (a2 : Int) (x2 : (List (Int × Int))) : Option ((List (Int × Int)) ⊕ ((List (Int × Int)) ⊕ (List (Int × Int)))) :=
  if (decide ((x2.length : Int) ≤ a2)) = true then
    (idxO x2 (w64 ((x2.length : Int) - 1))).bind fun v5 =>
    (spec_imAt a0 v5).bind fun v6 =>
    if (!v6.2) = true then
      some (.inr (.inl x2))
    else
      (guardO (x2.length + ([v6.1]).length ≤ 1099511627776)).bind fun u8 =>
      some (.inl (x2 ++ [v6.1]))
  else
    some (.inr (.inr x2))
noncomputable def spec_orRun (a0 : (List ((Int × Int) × (Int × Int)))) (a1 : (Int × Int)) (a2 : Int) : Option (List (Int × Int)) :=
  (loopO (spec_orRun_b1 a0 a2) ([a1])).bind fun y3 => (Sum.elim (fun p => some p) (fun p => spec_orRun_k1 p)) y3
noncomputable def spec_knValues (a0 : (List ((Int × Int) × (Int × Int)))) (a1 : Int) : Option ((List (Int × Int)) × Bool) :=
  (spec_knCentre a0).bind fun v1 =>
  (spec_orRun a0 v1 a1).bind fun v2 =>
  if (decide ((v2.length : Int) ≤ a1)) = true then
    some ([], false)
  else
    (guardO (0 ≤ 1 ∧ 1 ≤ (v2.length : Int))).bind fun u4 =>
    some ((v2.drop (Int.toNat 1)), true)
noncomputable def spec_TurningValues (a0 : (List ((Int × Int) × (Int × Int)))) (a1 : Int) : Option ((List (Int × Int)) × Bool) :=
  (spec_knLaps a0).bind fun v1 =>
  (if (!v1) = true then
      some true
    else
      (spec_knLength a1).bind fun v2 =>
      some (!v2)).bind fun w3 =>
  if w3 = true then
    some ([], false)
  else
    (spec_knValues a0 a1).bind fun v5 =>
    some v5
noncomputable def impl_orbit_k1  (x1 : (List (Int × Int))) : Option (List (Int × Int)) :=
  some x1
noncomputable def impl_orbit_b1 (a0 : (List ((Int × Int) × (Int × Int)))) (a2 : Int) (x2 : (Int × Int × (List (Int × Int)) × Bool × Int)) : Option ((Int × Int × (List (Int × Int)) × Bool × Int) ⊕ (List (Int × Int))) :=
  if (decide (x2.2.2.2.2 < a2)) = true then
    (impl_calc_value x2.2.2.2.1 a0 (x2.1, x2.2.1)).bind fun v5 =>
    if v5.2 = true then
      some (.inr x2.2.2.1)
    else
      (guardO (x2.2.2.1.length + ([v5.1]).length ≤ 1099511627776)).bind fun u7 =>
      some (.inl (v5.1.1, v5.1.2, (x2.2.2.1 ++ [v5.1]), v5.2, (w64 (x2.2.2.2.2 + 1))))
  else
    some (.inr x2.2.2.1)
noncomputable def impl_orbit (a0 : (List ((Int × Int) × (Int × Int)))) (a1 : (Int × Int)) (a2 : Int) : Option (List (Int × Int)) :=
  (loopO (impl_orbit_b1 a0 a2) (a1.1, a1.2, [a1], false, 0)).bind fun y3 => impl_orbit_k1 y3
noncomputable def impl_kneading (a0 : (List ((Int × Int) × (Int × Int)))) (a1 : Int) : Option ((List (Int × Int)) × (Int × Int) × Bool) :=
  (impl_isUnimodal a0).bind fun v1 =>
  (if (!v1) = true then
      some true
    else
      (impl_within a1 1 30).bind fun v2 =>
      some (!v2)).bind fun w3 =>
  if w3 = true then
    some ([], (0, 0), false)
  else
    (impl_turns a0).bind fun v5 =>
    (idxO v5 0).bind fun v6 =>
    (impl_orbit a0 v6 a1).bind fun v7 =>
    if (decide ((v7.length : Int) ≤ a1)) = true then
      some ([], (0, 0), false)
    else
      (guardO (0 ≤ 1 ∧ 1 ≤ (v7.length : Int))).bind fun u9 =>
      some ((v7.drop (Int.toNat 1)), v6, true)
noncomputable def impl_TurningValues (a0 : (List ((Int × Int) × (Int × Int)))) (a1 : Int) : Option ((List (Int × Int)) × Bool) :=
  (impl_kneading a0 a1).bind fun v1 =>
  (slices_Clone_Limpl_Rat_impl_Rat v1.1).bind fun v2 =>
  some (v2, v1.2.2)
noncomputable def laws_FnExactTurningValues (a0 : (List ((Int × Int) × (Int × Int)))) (a1 : Int) : Option Bool :=
  (laws_szPointS a0 1048576).bind fun v1 =>
  if (decide (v1 < 0)) = true then
    some true
  else
    (laws_toPointS a0).bind fun v3 =>
    (spec_TurningValues v3 a1).bind fun v4 =>
    (laws_toPointS a0).bind fun v5 =>
    (impl_TurningValues v5 a1).bind fun v6 =>
    (laws_eqRatS v6.1 v4.1).bind fun v7 =>
    if ((!v7) || (!(v6.2 == v4.2))) = true then
      some false
    else
      (laws_toPointS a0).bind fun v9 =>
      (laws_eqPointS v5 v9).bind fun v10 =>
      if (!v10) = true then
        some false
      else
        (laws_markPointS v5 1).bind fun v12 =>
        (if (decide (v12.1 < 0)) = true then
            some true
          else
            (laws_eqRatS v6.1 v4.1).bind fun v13 =>
            if (!v13) = true then
              some true
            else
              some (!(v6.2 == v4.2))).bind fun w14 =>
        if w14 = true then
          some false
        else
          (laws_markRatS v6.1 1).bind fun v16 =>
          (laws_heldRatS v16.2 1).bind fun v17 =>
          if (decide (v17 < 0)) = true then
            some false
          else
            if (v17 != v16.1) = true then
              some false
            else
              (laws_toPointS a0).bind fun v20 =>
              (impl_TurningValues v20 a1).bind fun v21 =>
              (laws_eqRatS v21.1 v4.1).bind fun v22 =>
              if ((!v22) || (!(v21.2 == v4.2))) = true then
                some false
              else
                (laws_heldRatS v16.2 1).bind fun v24 =>
                if (decide (v24 < 0)) = true then
                  some false
                else
                  if (v24 != v16.1) = true then
                    some false
                  else
                    some true
noncomputable def impl_IsGrowthBound (a0 : (List (List Int))) (a1 : (List Int)) (a2 : (Int × Int)) (a3 : (Int × Int)) : Option (Bool × Bool) :=
  (impl_isVectorOf a0 a1).bind fun v1 =>
  (if (!v1) = true then
      some true
    else
      (impl_areRats ([a2, a3])).bind fun v2 =>
      some (!v2)).bind fun w3 =>
  if w3 = true then
    some (false, false)
  else
    (impl_ratioBounds a0 a1).bind fun v5 =>
    (impl_less v5.1 a2).bind fun v6 =>
    (if (!v6) = true then
        (impl_less a3 v5.2).bind fun v7 =>
        some (!v7)
      else
        some false).bind fun w8 =>
    some (w8, true)
noncomputable def spec_gwWithin (a0 : (List (List Int))) (a1 : (List Int)) (a2 : (Int × Int)) (a3 : (Int × Int)) : Option Bool :=
  (spec_gwBounds a0 a1).bind fun v1 =>
  (spec_raCmp a2 v1.1).bind fun v2 =>
  (if (decide (v2 ≤ 0)) = true then
      (spec_raCmp v1.2 a3).bind fun v3 =>
      some (decide (v3 ≤ 0))
    else
      some false).bind fun w4 =>
  some w4
noncomputable def spec_IsGrowthBound (a0 : (List (List Int))) (a1 : (List Int)) (a2 : (Int × Int)) (a3 : (Int × Int)) : Option (Bool × Bool) :=
  (spec_gwAsked a0 a1).bind fun v1 =>
  (if (!v1) = true then
      some true
    else
      (spec_raGood a2).bind fun v2 =>
      if (!v2) = true then
        some true
      else
        (spec_raGood a3).bind fun v3 =>
        some (!v3)).bind fun w4 =>
  if w4 = true then
    some (false, false)
  else
    (spec_gwWithin a0 a1 a2 a3).bind fun v6 =>
    some (v6, true)
noncomputable def laws_FnExactVariationOf (a0 : (List ((Int × Int) × (Int × Int)))) : Option Bool :=
  (laws_szPointS a0 1048576).bind fun v1 =>
  if (decide (v1 < 0)) = true then
    some true
  else
    (laws_toPointS a0).bind fun v3 =>
    (spec_VariationOf v3).bind fun v4 =>
    (laws_toPointS a0).bind fun v5 =>
    (impl_VariationOf v5).bind fun v6 =>
    (laws_eqRat v6.1 v4.1).bind fun v7 =>
    if ((!v7) || (!(v6.2 == v4.2))) = true then
      some false
    else
      (laws_toPointS a0).bind fun v9 =>
      (laws_eqPointS v5 v9).bind fun v10 =>
      if (!v10) = true then
        some false
      else
        some true
noncomputable def laws_FnExactIsStrict (a0 : (List ((Int × Int) × (Int × Int)))) : Option Bool :=
  (laws_szPointS a0 1048576).bind fun v1 =>
  if (decide (v1 < 0)) = true then
    some true
  else
    (laws_toPointS a0).bind fun v3 =>
    (spec_IsStrict v3).bind fun v4 =>
    (laws_toPointS a0).bind fun v5 =>
    (impl_IsStrict v5).bind fun v6 =>
    if ((!(v6.1 == v4.1)) || (!(v6.2 == v4.2))) = true then
      some false
    else
      (laws_toPointS a0).bind fun v8 =>
      (laws_eqPointS v5 v8).bind fun v9 =>
      if (!v9) = true then
        some false
      else
        some true
noncomputable def laws_FnExactLapBound (a0 : (List ((Int × Int) × (Int × Int)))) (a1 : Int) : Option Bool :=
  (laws_szPointS a0 1048576).bind fun v1 =>
  if (decide (v1 < 0)) = true then
    some true
  else
    (laws_toPointS a0).bind fun v3 =>
    (spec_LapBound v3 a1).bind fun v4 =>
    (laws_toPointS a0).bind fun v5 =>
    (impl_LapBound v5 a1).bind fun v6 =>
    if ((v6.1 != v4.1) || (!(v6.2 == v4.2))) = true then
      some false
    else
      (laws_toPointS a0).bind fun v8 =>
      (laws_eqPointS v5 v8).bind fun v9 =>
      if (!v9) = true then
        some false
      else
        some true
noncomputable def laws_FnExactIsUnimodal (a0 : (List ((Int × Int) × (Int × Int)))) : Option Bool :=
  (laws_szPointS a0 1048576).bind fun v1 =>
  if (decide (v1 < 0)) = true then
    some true
  else
    (laws_toPointS a0).bind fun v3 =>
    (spec_IsUnimodal v3).bind fun v4 =>
    (laws_toPointS a0).bind fun v5 =>
    (impl_IsUnimodal v5).bind fun v6 =>
    if ((!(v6.1 == v4.1)) || (!(v6.2 == v4.2))) = true then
      some false
    else
      (laws_toPointS a0).bind fun v8 =>
      (laws_eqPointS v5 v8).bind fun v9 =>
      if (!v9) = true then
        some false
      else
        some true
noncomputable def laws_FnExactFullLaps (a0 : (List ((Int × Int) × (Int × Int)))) : Option Bool :=
  (laws_szPointS a0 1048576).bind fun v1 =>
  if (decide (v1 < 0)) = true then
    some true
  else
    (laws_toPointS a0).bind fun v3 =>
    (spec_FullLaps v3).bind fun v4 =>
    (laws_toPointS a0).bind fun v5 =>
    (impl_FullLaps v5).bind fun v6 =>
    if ((v6.1 != v4.1) || (!(v6.2 == v4.2))) = true then
      some false
    else
      (laws_toPointS a0).bind fun v8 =>
      (laws_eqPointS v5 v8).bind fun v9 =>
      if (!v9) = true then
        some false
      else
        some true
noncomputable def spec_IsLift (a0 : (List ((Int × Int) × (Int × Int)))) : Option Bool :=
  (spec_liGood a0).bind fun v1 =>
  some v1
noncomputable def laws_FnExactIsLift (a0 : (List ((Int × Int) × (Int × Int)))) : Option Bool :=
  (laws_szLift a0 1048576).bind fun v1 =>
  if (decide (v1 < 0)) = true then
    some true
  else
    (laws_toLift a0).bind fun v3 =>
    (spec_IsLift v3).bind fun v4 =>
    (laws_toLift a0).bind fun v5 =>
    (impl_IsLift v5).bind fun v6 =>
    if (!(v6 == v4)) = true then
      some false
    else
      (laws_toLift a0).bind fun v8 =>
      (laws_eqLift v5 v8).bind fun v9 =>
      if (!v9) = true then
        some false
      else
        some true
noncomputable def laws_FnExactIsGrowthBound (a0 : (List (List Int))) (a1 : (List Int)) (a2 : (Int × Int)) (a3 : (Int × Int)) : Option Bool :=
  if (decide ((a1.length : Int) > 1048576)) = true then
    some true
  else
    (laws_szIntSS a0 1048576).bind fun v2 =>
    if (decide (v2 < 0)) = true then
      some true
    else
      (laws_toIntSS a0).bind fun v4 =>
      (laws_toIntS a1).bind fun v5 =>
      (laws_toRat a2).bind fun v6 =>
      (laws_toRat a3).bind fun v7 =>
      (spec_IsGrowthBound v4 v5 v6 v7).bind fun v8 =>
      (laws_toIntSS a0).bind fun v9 =>
      (laws_toIntS a1).bind fun v10 =>
      (laws_toRat a2).bind fun v11 =>
      (laws_toRat a3).bind fun v12 =>
      (impl_IsGrowthBound v9 v10 v11 v12).bind fun v13 =>
      if ((!(v13.1 == v8.1)) || (!(v13.2 == v8.2))) = true then
        some false
      else
        (laws_toIntSS a0).bind fun v15 =>
        (laws_eqIntSS v9 v15).bind fun v16 =>
        if (!v16) = true then
          some false
        else
          (laws_toIntS a1).bind fun v18 =>
          (laws_eqIntS v10 v18).bind fun v19 =>
          if (!v19) = true then
            some false
          else
            some true
end Go.PV
