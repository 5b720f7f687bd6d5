/-
  Plain definitions of what the functions answer.
  Conditions: none.
-/
import Derived.Test.YtgebigiffoiagaaGreatDoorPvCx
set_option linter.all false
namespace Go.PV
noncomputable def spec_l1In (a0 : Int) (a1 : Int) (a2 : Int) : Option Bool :=
 some ((decide (a0 ≥ a1)) && (decide (a0 ≤ a2)))
noncomputable def spec_l1All_k1  (x1 : Unit) : Option Bool :=
 some true
noncomputable def spec_l1All_b1 (a0 : (List Int)) (a1 : Int) (a2 : Int) (x2 : Int) : Option (Int ⊕ (Bool ⊕ Unit)) :=
 if (decide (x2 < (a0.length : Int))) = true then
  (idxO a0 x2).bind fun v5 =>
  (spec_l1In v5 a1 a2).bind fun v6 =>
  if (!v6) = true then
   some (.inr (.inl false))
  else
   some (.inl (w64 (x2 + 1)))
 else
  some (.inr (.inr ()))
noncomputable def spec_l1All (a0 : (List Int)) (a1 : Int) (a2 : Int) : Option Bool :=
 (loopO (spec_l1All_b1 a0 a1 a2) 0).bind fun y3 => (Sum.elim (fun p => some p) (fun p => spec_l1All_k1 p)) y3
noncomputable def spec_gwVector (a0 : (List Int)) : Option Bool :=
 (spec_l1In (a0.length : Int) 1 8).bind fun v1 =>
 (if v1 = true then
   (spec_l1All a0 1 1000000).bind fun v2 =>
   some v2
  else
   some false).bind fun w3 =>
 some w3
noncomputable def impl_within (a0 : Int) (a1 : Int) (a2 : Int) : Option Bool :=
 some ((decide (a1 ≤ a0)) && (decide (a0 ≤ a2)))
noncomputable def slices_IndexFunc_Lint_int_k1  (x1 : Unit) : Option Int :=
 some (-1)
noncomputable def slices_IndexFunc_Lint_int_b1 (a0 : (List Int)) (a1 : Int → Option Bool) (x2 : Int) : Option (Int ⊕ (Int ⊕ Unit)) :=
 if (decide (x2 < (a0.length : Int))) = true then
  (idxO a0 x2).bind fun v5 =>
  (a1 v5).bind fun v6 =>
  if v6 = true then
   some (.inr (.inl x2))
  else
   some (.inl (w64 (x2 + 1)))
 else
  some (.inr (.inr ()))
noncomputable def slices_IndexFunc_Lint_int (a0 : (List Int)) (a1 : (Int → Option Bool)) : Option Int :=
 (loopO (slices_IndexFunc_Lint_int_b1 a0 a1) 0).bind fun y3 => (Sum.elim (fun p => some p) (fun p => slices_IndexFunc_Lint_int_k1 p)) y3
noncomputable def slices_ContainsFunc_Lint_int (a0 : (List Int)) (a1 : (Int → Option Bool)) : Option Bool :=
 (slices_IndexFunc_Lint_int a0 a1).bind fun v1 =>
 some (decide (v1 ≥ 0))
noncomputable def impl_isVector_1 (a0 : Int) : Option Bool :=
 (impl_within a0 1 1000000).bind fun v1 =>
 some (!v1)
noncomputable def impl_isVector (a0 : (List Int)) : Option Bool :=
 (impl_within (a0.length : Int) 1 8).bind fun v1 =>
 (if v1 = true then
   (slices_ContainsFunc_Lint_int a0 (fun x0 => impl_isVector_1 x0)).bind fun v2 =>
   some (!v2)
  else
   some false).bind fun w3 =>
 some w3
noncomputable def laws_eqIntS_k1  (x2 : Unit) : Option Bool :=
 some true
noncomputable def laws_eqIntS_b1 (a0 : (List Int)) (a1 : (List Int)) (x3 : Int) : Option (Int ⊕ (Bool ⊕ Unit)) :=
 if (decide (x3 < (a0.length : Int))) = true then
  (idxO a0 x3).bind fun v6 =>
  (idxO a1 x3).bind fun v7 =>
  if (v6 != v7) = true then
   some (.inr (.inl false))
  else
   some (.inl (w64 (x3 + 1)))
 else
  some (.inr (.inr ()))
noncomputable def laws_eqIntS (a0 : (List Int)) (a1 : (List Int)) : Option Bool :=
 if ((a0.length : Int) != (a1.length : Int)) = true then
  some false
 else
  (loopO (laws_eqIntS_b1 a0 a1) 0).bind fun y4 => (Sum.elim (fun p => some p) (fun p => laws_eqIntS_k1 p)) y4
noncomputable def spec_l1Most (a0 : Int) (a1 : Int) : Option Int :=
 if (decide (a0 > a1)) = true then
  some a0
 else
  some a1
noncomputable def spec_l1Abs (a0 : Int) : Option Int :=
 (spec_l1Most a0 (w64 (0 - a0))).bind fun v1 =>
 some v1
noncomputable def spec_raCommon_k1  (x1 : Int) : Option Int :=
 some x1
noncomputable def spec_raCommon_b1  (x2 : Qr) : Option (Qr ⊕ Int) :=
 if (decide (x2.2 > 0)) = true then
  (guardO (x2.2 ≠ 0)).bind fun u5 =>
  some (.inl (x2.2, (Int.tmod x2.1 x2.2)))
 else
  some (.inr x2.1)
noncomputable def spec_raCommon (a0 : Int) (a1 : Int) : Option Int :=
 (loopO spec_raCommon_b1 (a0, a1)).bind fun y3 => spec_raCommon_k1 y3
noncomputable def spec_raGood (a0 : Qr) : Option Bool :=
 (spec_l1In a0.2 1 1000000000).bind fun v1 =>
 (if v1 = true then
   (spec_l1In a0.1 (-1000000000) 1000000000).bind fun v2 =>
   if v2 = true then
    (spec_l1Abs a0.1).bind fun v3 =>
    (spec_raCommon v3 a0.2).bind fun v4 =>
    some (v4 == 1)
   else
    some false
  else
   some false).bind fun w5 =>
 some w5
noncomputable def spec_raDown (a0 : Int) (a1 : Int) : Option Int :=
 if (a1 == 0) = true then
  some 0
 else
  (guardO (a1 ≠ 0)).bind fun u2 =>
  if (decide ((Int.tmod a0 a1) < 0)) = true then
   some (w64 ((w64 (Int.tdiv a0 a1)) - 1))
  else
   some (w64 (Int.tdiv a0 a1))
noncomputable def spec_raFloor (a0 : Qr) : Option Int :=
 (spec_raDown a0.1 a0.2).bind fun v1 =>
 some v1
noncomputable def impl_abs (a0 : Int) : Option Int :=
 if (decide (a0 < 0)) = true then
  some (w64 (0 - a0))
 else
  some a0
noncomputable def impl_greatestDivisor_k1  (x3 : Int) : Option Int :=
 some x3
noncomputable def impl_greatestDivisor_b1  (x4 : Qr) : Option (Qr ⊕ Int) :=
 if (x4.2 != 0) = true then
  (guardO (x4.2 ≠ 0)).bind fun u7 =>
  some (.inl (x4.2, (Int.tmod x4.1 x4.2)))
 else
  some (.inr x4.1)
noncomputable def impl_greatestDivisor (a0 : Int) (a1 : Int) : Option Int :=
 (impl_abs a0).bind fun v1 =>
 (impl_abs a1).bind fun v2 =>
 (loopO impl_greatestDivisor_b1 (v1, v2)).bind fun y5 => impl_greatestDivisor_k1 y5
noncomputable def impl_isRat (a0 : Qr) : Option Bool :=
 (impl_within a0.2 1 1000000000).bind fun v1 =>
 (if v1 = true then
   (impl_within a0.1 (-1000000000) 1000000000).bind fun v2 =>
   if v2 = true then
    (impl_greatestDivisor a0.1 a0.2).bind fun v3 =>
    some (v3 == 1)
   else
    some false
  else
   some false).bind fun w4 =>
 some w4
noncomputable def impl_compare (a0 : Qr) (a1 : Qr) : Option Int :=
 if (decide ((w64 (a0.1 * a1.2)) < (w64 (a1.1 * a0.2)))) = true then
  some (-1)
 else
  if (decide ((w64 (a0.1 * a1.2)) > (w64 (a1.1 * a0.2)))) = true then
   some 1
  else
   some 0
noncomputable def impl_less (a0 : Qr) (a1 : Qr) : Option Bool :=
 (impl_compare a0 a1).bind fun v1 =>
 some (decide (v1 < 0))
noncomputable def impl_floorDivide (a0 : Int) (a1 : Int) : Option Int :=
 (guardO (a1 ≠ 0)).bind fun u1 =>
 if (decide ((Int.tmod a0 a1) < 0)) = true then
  some (w64 ((w64 (Int.tdiv a0 a1)) - 1))
 else
  some (w64 (Int.tdiv a0 a1))
noncomputable def impl_floor (a0 : Qr) : Option Int :=
 (impl_floorDivide a0.1 a0.2).bind fun v1 =>
 some v1
noncomputable def impl_areRats_k1  (x1 : Unit) : Option Bool :=
 some true
noncomputable def impl_areRats_b1 (a0 : (List Qr)) (x2 : Int) : Option (Int ⊕ (Bool ⊕ Unit)) :=
 if (decide (x2 < (a0.length : Int))) = true then
  (idxO a0 x2).bind fun v5 =>
  (impl_isRat v5).bind fun v6 =>
  if (!v6) = true then
   some (.inr (.inl false))
  else
   some (.inl (w64 (x2 + 1)))
 else
  some (.inr (.inr ()))
noncomputable def impl_areRats (a0 : (List Qr)) : Option Bool :=
 (loopO (impl_areRats_b1 a0) 0).bind fun y3 => (Sum.elim (fun p => some p) (fun p => impl_areRats_k1 p)) y3
noncomputable def impl_lowest_k1 (a0 : Int) (a1 : Int) (x2 : Int) : Option (Qr × Bool) :=
 (guardO (x2 ≠ 0)).bind fun u3 =>
 (impl_isRat ((w64 (Int.tdiv a0 x2)), (w64 (Int.tdiv a1 x2)))).bind fun v4 =>
 if (!v4) = true then
  some ((0, 0), false)
 else
  some (((w64 (Int.tdiv a0 x2)), (w64 (Int.tdiv a1 x2))), true)
noncomputable def impl_lowest (a0 : Int) (a1 : Int) : Option (Qr × Bool) :=
 (impl_greatestDivisor a0 a1).bind fun v1 =>
 if (decide (a1 < 0)) = true then
  impl_lowest_k1 a0 a1 (w64 (0 - v1))
 else
  impl_lowest_k1 a0 a1 v1
noncomputable def spec_grGood_k1  (x3 : Unit) : Option Bool :=
 some true
noncomputable def spec_grGood_b1 (a0 : (List (List Int))) (x4 : Int) : Option (Int ⊕ (Bool ⊕ Unit)) :=
 if (decide (x4 < (a0.length : Int))) = true then
  (idxO a0 x4).bind fun v7 =>
  (if ((v7.length : Int) != (a0.length : Int)) = true then
    some true
   else
    (spec_l1All v7 0 9).bind fun v8 =>
    some (!v8)).bind fun w9 =>
  if w9 = true then
   some (.inr (.inl false))
  else
   some (.inl (w64 (x4 + 1)))
 else
  some (.inr (.inr ()))
noncomputable def spec_grGood (a0 : (List (List Int))) : Option Bool :=
 (spec_l1In (a0.length : Int) 1 8).bind fun v1 =>
 if (!v1) = true then
  some false
 else
  (loopO (spec_grGood_b1 a0) 0).bind fun y5 => (Sum.elim (fun p => some p) (fun p => spec_grGood_k1 p)) y5
noncomputable def spec_gwTimes_k1  (x1 : (List Int)) : Option (List Int) :=
 some x1
noncomputable def spec_gwTimes_k2 (x2 : ((List Int) × Int)) (x5 : (List Int)) : Option (((List Int) × Int) ⊕ (List Int)) :=
 some (.inl (x5, (w64 (x2.2 + 1))))
noncomputable def spec_gwTimes_k3 (x2 : ((List Int) × Int)) (x7 : Int) : Option (((List Int) × Int) ⊕ (List Int)) :=
 (guardO (x2.1.length + ([x7]).length ≤ 1099511627776)).bind fun u8 =>
 spec_gwTimes_k2 x2 (x2.1 ++ [x7])
noncomputable def spec_gwTimes_b2 (a1 : (List Int)) (v6 : (List Int)) (x9 : Qr) : Option (Qr ⊕ Int) :=
 if (decide (x9.2 < (v6.length : Int))) = true then
  (idxO v6 x9.2).bind fun v12 =>
  (idxO a1 x9.2).bind fun v13 =>
  some (.inl ((w64 (x9.1 + (w64 (v12 * v13)))), (w64 (x9.2 + 1))))
 else
  some (.inr x9.1)
noncomputable def spec_gwTimes_b1 (a0 : (List (List Int))) (a1 : (List Int)) (x2 : ((List Int) × Int)) : Option (((List Int) × Int) ⊕ (List Int)) :=
 if (decide (x2.2 < (a0.length : Int))) = true then
  (idxO a0 x2.2).bind fun v6 =>
  (loopO (spec_gwTimes_b2 a1 v6) (0, 0)).bind fun y10 => spec_gwTimes_k3 x2 y10
 else
  some (.inr x2.1)
noncomputable def spec_gwTimes (a0 : (List (List Int))) (a1 : (List Int)) : Option (List Int) :=
 (loopO (spec_gwTimes_b1 a0 a1) ([], 0)).bind fun y3 => spec_gwTimes_k1 y3
noncomputable def slices_IndexFunc_LLint_Lint_k1  (x1 : Unit) : Option Int :=
 some (-1)
noncomputable def slices_IndexFunc_LLint_Lint_b1 (a0 : (List (List Int))) (a1 : (List Int) → Option Bool) (x2 : Int) : Option (Int ⊕ (Int ⊕ Unit)) :=
 if (decide (x2 < (a0.length : Int))) = true then
  (idxO a0 x2).bind fun v5 =>
  (a1 v5).bind fun v6 =>
  if v6 = true then
   some (.inr (.inl x2))
  else
   some (.inl (w64 (x2 + 1)))
 else
  some (.inr (.inr ()))
noncomputable def slices_IndexFunc_LLint_Lint (a0 : (List (List Int))) (a1 : ((List Int) → Option Bool)) : Option Int :=
 (loopO (slices_IndexFunc_LLint_Lint_b1 a0 a1) 0).bind fun y3 => (Sum.elim (fun p => some p) (fun p => slices_IndexFunc_LLint_Lint_k1 p)) y3
noncomputable def slices_ContainsFunc_LLint_Lint (a0 : (List (List Int))) (a1 : ((List Int) → Option Bool)) : Option Bool :=
 (slices_IndexFunc_LLint_Lint a0 a1).bind fun v1 =>
 some (decide (v1 ≥ 0))
noncomputable def impl_isGraph_1_1 (a0 : Int) : Option Bool :=
 (impl_within a0 0 9).bind fun v1 =>
 some (!v1)
noncomputable def impl_isGraph_1 (a0 : (List Int)) (c0 : (List (List Int))) : Option Bool :=
 (if ((a0.length : Int) != (c0.length : Int)) = true then
   some true
  else
   (slices_ContainsFunc_Lint_int a0 (fun x0 => impl_isGraph_1_1 x0)).bind fun v1 =>
   some v1).bind fun w2 =>
 some w2
noncomputable def impl_isGraph (a0 : (List (List Int))) : Option Bool :=
 (impl_within (a0.length : Int) 1 8).bind fun v1 =>
 (if v1 = true then
   (slices_ContainsFunc_LLint_Lint a0 (fun x0 => impl_isGraph_1 x0 a0)).bind fun v2 =>
   some (!v2)
  else
   some false).bind fun w3 =>
 some w3
noncomputable def impl_times_k1  (x2 : (List Int)) : Option (List Int) :=
 some x2
noncomputable def impl_times_k2 (x3 : ((List Int) × Int)) (x6 : (List Int)) : Option (((List Int) × Int) ⊕ (List Int)) :=
 some (.inl (x6, (w64 (x3.2 + 1))))
noncomputable def impl_times_b2 (a1 : (List Int)) (x3 : ((List Int) × Int)) (v7 : (List Int)) (x8 : ((List Int) × Int)) : Option (((List Int) × Int) ⊕ (List Int)) :=
 if (decide (x8.2 < (v7.length : Int))) = true then
  (idxO v7 x8.2).bind fun v11 =>
  (idxO x8.1 x3.2).bind fun v12 =>
  (idxO a1 x8.2).bind fun v13 =>
  some (.inl ((x8.1.set (Int.toNat x3.2) (w64 (v12 + (w64 (v11 * v13))))), (w64 (x8.2 + 1))))
 else
  some (.inr x8.1)
noncomputable def impl_times_b1 (a0 : (List (List Int))) (a1 : (List Int)) (x3 : ((List Int) × Int)) : Option (((List Int) × Int) ⊕ (List Int)) :=
 if (decide (x3.2 < (a0.length : Int))) = true then
  (idxO a0 x3.2).bind fun v7 =>
  (loopO (impl_times_b2 a1 x3 v7) (x3.1, 0)).bind fun y9 => impl_times_k2 x3 y9
 else
  some (.inr x3.1)
noncomputable def impl_times (a0 : (List (List Int))) (a1 : (List Int)) : Option (List Int) :=
 (guardO (0 ≤ (a0.length : Int) ∧ (a0.length : Int) ≤ 1099511627776)).bind fun u1 =>
 (loopO (impl_times_b1 a0 a1) ((List.replicate (Int.toNat (a0.length : Int)) (0 : Int)), 0)).bind fun y4 => impl_times_k1 y4
noncomputable def spec_grSteps (a0 : Int) : Option Bool :=
 (spec_l1In a0 0 12).bind fun v1 =>
 some v1
noncomputable def spec_l1Least (a0 : Int) (a1 : Int) : Option Int :=
 if (decide (a0 < a1)) = true then
  some a0
 else
  some a1
noncomputable def spec_grCap (a0 : Int) : Option Int :=
 (spec_l1Least a0 1000000001).bind fun v1 =>
 some v1
noncomputable def spec_grPower_k2  (x2 : (List (List Int))) : Option (List (List Int)) :=
 some x2
noncomputable def spec_grPower_k3 (x3 : (Int × (List (List Int)))) (x6 : (List (List Int))) : Option ((Int × (List (List Int))) ⊕ (List (List Int))) :=
 some (.inl ((w64 (x3.1 - 1)), x6))
noncomputable def spec_grPower_k4 (x3 : (Int × (List (List Int)))) (x7 : (List (List Int))) : Option ((Int × (List (List Int))) ⊕ (List (List Int))) :=
 spec_grPower_k3 x3 x7
noncomputable def spec_grPower_k5 (x8 : ((List (List Int)) × Int)) (x11 : (List (List Int))) : Option (((List (List Int)) × Int) ⊕ (List (List Int))) :=
 some (.inl (x11, (w64 (x8.2 + 1))))
noncomputable def spec_grPower_k6 (x8 : ((List (List Int)) × Int)) (x13 : (List Int)) : Option (((List (List Int)) × Int) ⊕ (List (List Int))) :=
 (guardO (x8.1.length + ([x13]).length ≤ 1099511627776)).bind fun u14 =>
 spec_grPower_k5 x8 (x8.1 ++ [x13])
noncomputable def spec_grPower_k7 (x15 : ((List Int) × Int)) (x18 : (List Int)) : Option (((List Int) × Int) ⊕ (List Int)) :=
 some (.inl (x18, (w64 (x15.2 + 1))))
noncomputable def spec_grPower_b4 (a0 : (List (List Int))) (x3 : (Int × (List (List Int)))) (x8 : ((List (List Int)) × Int)) (x15 : ((List Int) × Int)) (x19 : ((List Int) × Int)) : Option (((List Int) × Int) ⊕ (List Int)) :=
 if (decide (x19.2 < (a0.length : Int))) = true then
  (idxO x19.1 x15.2).bind fun v22 =>
  (idxO x3.2 x8.2).bind fun v23 =>
  (idxO v23 x19.2).bind fun v24 =>
  (idxO a0 x19.2).bind fun v25 =>
  (idxO v25 x15.2).bind fun v26 =>
  (spec_grCap (w64 (v22 + (w64 (v24 * v26))))).bind fun v27 =>
  some (.inl ((x19.1.set (Int.toNat x15.2) v27), (w64 (x19.2 + 1))))
 else
  some (.inr x19.1)
noncomputable def spec_grPower_b3 (a0 : (List (List Int))) (x3 : (Int × (List (List Int)))) (x8 : ((List (List Int)) × Int)) (x15 : ((List Int) × Int)) : Option (((List Int) × Int) ⊕ (List Int)) :=
 if (decide (x15.2 < (a0.length : Int))) = true then
  (loopO (spec_grPower_b4 a0 x3 x8 x15) (x15.1, 0)).bind fun y20 => spec_grPower_k7 x15 y20
 else
  some (.inr x15.1)
noncomputable def spec_grPower_b2 (a0 : (List (List Int))) (x3 : (Int × (List (List Int)))) (x8 : ((List (List Int)) × Int)) : Option (((List (List Int)) × Int) ⊕ (List (List Int))) :=
 if (decide (x8.2 < (a0.length : Int))) = true then
  (guardO (0 ≤ (a0.length : Int) ∧ (a0.length : Int) ≤ 1099511627776)).bind fun u12 =>
  (loopO (spec_grPower_b3 a0 x3 x8) ((List.replicate (Int.toNat (a0.length : Int)) (0 : Int)), 0)).bind fun y16 => spec_grPower_k6 x8 y16
 else
  some (.inr x8.1)
noncomputable def spec_grPower_b1 (a0 : (List (List Int))) (x3 : (Int × (List (List Int)))) : Option ((Int × (List (List Int))) ⊕ (List (List Int))) :=
 if (decide (x3.1 > 0)) = true then
  (loopO (spec_grPower_b2 a0 x3) ([], 0)).bind fun y9 => spec_grPower_k4 x3 y9
 else
  some (.inr x3.2)
noncomputable def spec_grPower_k1 (a0 : (List (List Int))) (a1 : Int) (x1 : (List (List Int))) : Option (List (List Int)) :=
 (loopO (spec_grPower_b1 a0) (a1, x1)).bind fun y4 => spec_grPower_k2 y4
noncomputable def spec_grPower_b5 (a0 : (List (List Int))) (x28 : ((List (List Int)) × Int)) : Option (((List (List Int)) × Int) ⊕ (List (List Int))) :=
 if (decide (x28.2 < (a0.length : Int))) = true then
  (guardO (0 ≤ (a0.length : Int) ∧ (a0.length : Int) ≤ 1099511627776)).bind fun u31 =>
  (guardO (x28.1.length + ([(List.replicate (Int.toNat (a0.length : Int)) (0 : Int))]).length ≤ 1099511627776)).bind fun u32 =>
  (idxO (x28.1 ++ [(List.replicate (Int.toNat (a0.length : Int)) (0 : Int))]) x28.2).bind fun v33 =>
  (idxO v33 x28.2).bind fun v34 =>
  some (.inl (((x28.1 ++ [(List.replicate (Int.toNat (a0.length : Int)) (0 : Int))]).set (Int.toNat x28.2) (v33.set (Int.toNat x28.2) 1)), (w64 (x28.2 + 1))))
 else
  some (.inr x28.1)
noncomputable def spec_grPower (a0 : (List (List Int))) (a1 : Int) : Option (List (List Int)) :=
 (loopO (spec_grPower_b5 a0) ([], 0)).bind fun y29 => spec_grPower_k1 a0 a1 y29
noncomputable def spec_gwTotal_k1  (x1 : Int) : Option Int :=
 some x1
noncomputable def spec_gwTotal_k2 (x3 : Qr) (x6 : Int) : Option (Qr ⊕ Int) :=
 some (.inl (x6, (w64 (x3.2 + 1))))
noncomputable def spec_gwTotal_b2 (v7 : (List Int)) (x8 : Qr) : Option (Qr ⊕ Int) :=
 if (decide (x8.2 < (v7.length : Int))) = true then
  (idxO v7 x8.2).bind fun v11 =>
  (spec_grCap (w64 (x8.1 + v11))).bind fun v12 =>
  some (.inl (v12, (w64 (x8.2 + 1))))
 else
  some (.inr x8.1)
noncomputable def spec_gwTotal_b1 (v2 : (List (List Int))) (x3 : Qr) : Option (Qr ⊕ Int) :=
 if (decide (x3.2 < (v2.length : Int))) = true then
  (idxO v2 x3.2).bind fun v7 =>
  (loopO (spec_gwTotal_b2 v7) (x3.1, 0)).bind fun y9 => spec_gwTotal_k2 x3 y9
 else
  some (.inr x3.1)
noncomputable def spec_gwTotal (a0 : (List (List Int))) (a1 : Int) : Option Int :=
 (spec_grPower a0 a1).bind fun v2 =>
 (loopO (spec_gwTotal_b1 v2) (0, 0)).bind fun y4 => spec_gwTotal_k1 y4
noncomputable def spec_TotalWalks (a0 : (List (List Int))) (a1 : Int) : Option (Int × Bool) :=
 (spec_grGood a0).bind fun v1 =>
 (if (!v1) = true then
   some true
  else
   (spec_grSteps a1).bind fun v2 =>
   if (!v2) = true then
    some true
   else
    (spec_gwTotal a0 a1).bind fun v3 =>
    some (decide (v3 > 1000000000))).bind fun w4 =>
 if w4 = true then
  some (0, false)
 else
  (spec_gwTotal a0 a1).bind fun v6 =>
  some (v6, true)
noncomputable def impl_isWalk (a0 : (List (List Int))) (a1 : Int) : Option Bool :=
 (impl_isGraph a0).bind fun v1 =>
 (if v1 = true then
   (impl_within a1 0 12).bind fun v2 =>
   some v2
  else
   some false).bind fun w3 =>
 some w3
noncomputable def impl_emptyGraph_k1  (x2 : (List (List Int))) : Option (List (List Int)) :=
 some x2
noncomputable def impl_emptyGraph_b1 (a0 : Int) (x3 : ((List (List Int)) × Int)) : Option (((List (List Int)) × Int) ⊕ (List (List Int))) :=
 if (decide (x3.2 < ((List.replicate (Int.toNat a0) ([] : (List Int))).length : Int))) = true then
  (idxO x3.1 x3.2).bind fun v6 =>
  some (.inl ((x3.1.set (Int.toNat x3.2) (List.replicate (Int.toNat a0) (0 : Int))), (w64 (x3.2 + 1))))
 else
  some (.inr x3.1)
noncomputable def impl_emptyGraph (a0 : Int) : Option (List (List Int)) :=
 (guardO (0 ≤ a0 ∧ a0 ≤ 1099511627776)).bind fun u1 =>
 (loopO (impl_emptyGraph_b1 a0) ((List.replicate (Int.toNat a0) ([] : (List Int))), 0)).bind fun y4 => impl_emptyGraph_k1 y4
noncomputable def impl_powerUpTo_k2  (x3 : (List (List Int))) : Option (List (List Int)) :=
 some x3
noncomputable def impl_powerUpTo_k3 (x4 : ((List (List Int)) × Int)) (x7 : (List (List Int))) : Option (((List (List Int)) × Int) ⊕ (List (List Int))) :=
 some (.inl (x7, (w64 (x4.2 + 1))))
noncomputable def impl_powerUpTo_k4 (x4 : ((List (List Int)) × Int)) (x9 : (List (List Int))) : Option (((List (List Int)) × Int) ⊕ (List (List Int))) :=
 impl_powerUpTo_k3 x4 x9
noncomputable def impl_powerUpTo_k5 (x10 : ((List (List Int)) × Int)) (x13 : (List (List Int))) : Option (((List (List Int)) × Int) ⊕ (List (List Int))) :=
 some (.inl (x13, (w64 (x10.2 + 1))))
noncomputable def impl_powerUpTo_k6 (x15 : ((List (List Int)) × Int)) (x18 : (List (List Int))) : Option (((List (List Int)) × Int) ⊕ (List (List Int))) :=
 some (.inl (x18, (w64 (x15.2 + 1))))
noncomputable def impl_powerUpTo_b4 (a2 : Int) (x10 : ((List (List Int)) × Int)) (v19 : Int) (v20 : (List Int)) (x21 : ((List (List Int)) × Int)) : Option (((List (List Int)) × Int) ⊕ (List (List Int))) :=
 if (decide (x21.2 < (v20.length : Int))) = true then
  (idxO v20 x21.2).bind fun v24 =>
  (idxO x21.1 x10.2).bind fun v25 =>
  (idxO v25 x21.2).bind fun v26 =>
  some (.inl ((x21.1.set (Int.toNat x10.2) (v25.set (Int.toNat x21.2) (if a2 < (w64 (v26 + (w64 (v19 * v24)))) then a2 else (w64 (v26 + (w64 (v19 * v24))))))), (w64 (x21.2 + 1))))
 else
  some (.inr x21.1)
noncomputable def impl_powerUpTo_b3 (a0 : (List (List Int))) (a2 : Int) (x10 : ((List (List Int)) × Int)) (v14 : (List Int)) (x15 : ((List (List Int)) × Int)) : Option (((List (List Int)) × Int) ⊕ (List (List Int))) :=
 if (decide (x15.2 < (v14.length : Int))) = true then
  (idxO v14 x15.2).bind fun v19 =>
  (idxO a0 x15.2).bind fun v20 =>
  (loopO (impl_powerUpTo_b4 a2 x10 v19 v20) (x15.1, 0)).bind fun y22 => impl_powerUpTo_k6 x15 y22
 else
  some (.inr x15.1)
noncomputable def impl_powerUpTo_b2 (a0 : (List (List Int))) (a2 : Int) (x4 : ((List (List Int)) × Int)) (x10 : ((List (List Int)) × Int)) : Option (((List (List Int)) × Int) ⊕ (List (List Int))) :=
 if (decide (x10.2 < (x4.1.length : Int))) = true then
  (idxO x4.1 x10.2).bind fun v14 =>
  (loopO (impl_powerUpTo_b3 a0 a2 x10 v14) (x10.1, 0)).bind fun y16 => impl_powerUpTo_k5 x10 y16
 else
  some (.inr x10.1)
noncomputable def impl_powerUpTo_b1 (a0 : (List (List Int))) (a1 : Int) (a2 : Int) (x4 : ((List (List Int)) × Int)) : Option (((List (List Int)) × Int) ⊕ (List (List Int))) :=
 if (decide (x4.2 < a1)) = true then
  (impl_emptyGraph (a0.length : Int)).bind fun v8 =>
  (loopO (impl_powerUpTo_b2 a0 a2 x4) (v8, 0)).bind fun y11 => impl_powerUpTo_k4 x4 y11
 else
  some (.inr x4.1)
noncomputable def impl_powerUpTo_k1 (a0 : (List (List Int))) (a1 : Int) (a2 : Int) (x2 : (List (List Int))) : Option (List (List Int)) :=
 (loopO (impl_powerUpTo_b1 a0 a1 a2) (x2, 0)).bind fun y5 => impl_powerUpTo_k2 y5
noncomputable def impl_powerUpTo_b5 (v1 : (List (List Int))) (x27 : ((List (List Int)) × Int)) : Option (((List (List Int)) × Int) ⊕ (List (List Int))) :=
 if (decide (x27.2 < (v1.length : Int))) = true then
  (idxO x27.1 x27.2).bind fun v30 =>
  (idxO v30 x27.2).bind fun v31 =>
  some (.inl ((x27.1.set (Int.toNat x27.2) (v30.set (Int.toNat x27.2) 1)), (w64 (x27.2 + 1))))
 else
  some (.inr x27.1)
noncomputable def impl_powerUpTo (a0 : (List (List Int))) (a1 : Int) (a2 : Int) : Option (List (List Int)) :=
 (impl_emptyGraph (a0.length : Int)).bind fun v1 =>
 (loopO (impl_powerUpTo_b5 v1) (v1, 0)).bind fun y28 => impl_powerUpTo_k1 a0 a1 a2 y28
noncomputable def impl_power (a0 : (List (List Int))) (a1 : Int) : Option (List (List Int)) :=
 (impl_powerUpTo a0 a1 1000000001).bind fun v1 =>
 some v1
noncomputable def impl_TotalWalks_k1  (x3 : Int) : Option (Int × Bool) :=
 if (decide (x3 > 1000000000)) = true then
  some (0, false)
 else
  some (x3, true)
noncomputable def impl_TotalWalks_k2 (x6 : Qr) (x9 : Int) : Option (Qr ⊕ Int) :=
 some (.inl (x9, (w64 (x6.2 + 1))))
noncomputable def impl_TotalWalks_b2 (v10 : (List Int)) (x11 : Qr) : Option (Qr ⊕ Int) :=
 if (decide (x11.2 < (v10.length : Int))) = true then
  (idxO v10 x11.2).bind fun v14 =>
  some (.inl ((w64 (x11.1 + v14)), (w64 (x11.2 + 1))))
 else
  some (.inr x11.1)
noncomputable def impl_TotalWalks_b1 (v5 : (List (List Int))) (x6 : Qr) : Option (Qr ⊕ Int) :=
 if (decide (x6.2 < (v5.length : Int))) = true then
  (idxO v5 x6.2).bind fun v10 =>
  (loopO (impl_TotalWalks_b2 v10) (x6.1, 0)).bind fun y12 => impl_TotalWalks_k2 x6 y12
 else
  some (.inr x6.1)
noncomputable def impl_TotalWalks (a0 : (List (List Int))) (a1 : Int) : Option (Int × Bool) :=
 (impl_isWalk a0 a1).bind fun v1 =>
 if (!v1) = true then
  some (0, false)
 else
  (impl_power a0 a1).bind fun v5 =>
  (loopO (impl_TotalWalks_b1 v5) (0, 0)).bind fun y7 => impl_TotalWalks_k1 y7
noncomputable def math_bits_Mul64 (a0 : Int) (a1 : Int) : Option Qr :=
 some ((IntKind.wrap .u64 ((IntKind.wrap .u64 ((IntKind.wrap .u64 ((ishr .u64 a0 32) * (ishr .u64 a1 32))) + (ishr .u64 (IntKind.wrap .u64 ((IntKind.wrap .u64 ((ishr .u64 a0 32) * (iand .u64 a1 4294967295))) + (ishr .u64 (IntKind.wrap .u64 ((iand .u64 a0 4294967295) * (iand .u64 a1 4294967295))) 32))) 32))) + (ishr .u64 (IntKind.wrap .u64 ((iand .u64 (IntKind.wrap .u64 ((IntKind.wrap .u64 ((ishr .u64 a0 32) * (iand .u64 a1 4294967295))) + (ishr .u64 (IntKind.wrap .u64 ((iand .u64 a0 4294967295) * (iand .u64 a1 4294967295))) 32))) 4294967295) + (IntKind.wrap .u64 ((iand .u64 a0 4294967295) * (ishr .u64 a1 32))))) 32))), (IntKind.wrap .u64 (a0 * a1)))
noncomputable def math_bits_Mul (a0 : Int) (a1 : Int) : Option Qr :=
 (math_bits_Mul64 a0 a1).bind fun v2 =>
 some v2
noncomputable def slices_Repeat_Lint_int_k3  (x5 : (List Int)) : Option (List Int) :=
 some x5
noncomputable def slices_Repeat_Lint_int_b1  (x6 : ((List Int) × Int)) : Option (((List Int) × Int) ⊕ (List Int)) :=
 if (decide (x6.2 < (x6.1.length : Int))) = true then
  (guardO (0 ≤ x6.2 ∧ x6.2 ≤ (x6.1.length : Int))).bind fun u9 =>
  some (.inl ((copyAt x6.1 (Int.toNat x6.2) (x6.1.take (Int.toNat x6.2))), (w64 (x6.2 + (min (Int.toNat x6.2) (x6.1.length - (Int.toNat x6.2)) : Nat)))))
 else
  some (.inr x6.1)
noncomputable def slices_Repeat_Lint_int_k2 (a0 : (List Int)) (v2 : Qr) (x3 : Unit) : Option (List Int) :=
 (guardO (0 ≤ (IntKind.wrap .i64 v2.2) ∧ (IntKind.wrap .i64 v2.2) ≤ 1099511627776)).bind fun u4 =>
 (loopO slices_Repeat_Lint_int_b1 ((copyAt (List.replicate (Int.toNat (IntKind.wrap .i64 v2.2)) (0 : Int)) 0 a0), ((min a0.length (List.replicate (Int.toNat (IntKind.wrap .i64 v2.2)) (0 : Int)).length : Nat) : Int))).bind fun y7 => slices_Repeat_Lint_int_k3 y7
noncomputable def slices_Repeat_Lint_int_k1 (a0 : (List Int)) (a1 : Int) (x1 : Unit) : Option (List Int) :=
 (math_bits_Mul (IntKind.wrap .u64 (a0.length : Int)) (IntKind.wrap .u64 a1)).bind fun v2 =>
 if ((decide (v2.1 > 0)) || (decide (v2.2 > 9223372036854775807))) = true then
  none
 else
  slices_Repeat_Lint_int_k2 a0 v2 ()
noncomputable def slices_Repeat_Lint_int (a0 : (List Int)) (a1 : Int) : Option (List Int) :=
 if (decide (a1 < 0)) = true then
  none
 else
  slices_Repeat_Lint_int_k1 a0 a1 ()
noncomputable def spec_WalkDigits_k1  (x7 : Int) : Option (Int × Bool) :=
 some (x7, true)
noncomputable def spec_WalkDigits_b1  (x8 : Qr) : Option (Qr ⊕ Int) :=
 if (decide (x8.1 > 1)) = true then
  some (.inl ((w64 (Int.tdiv x8.1 2)), (w64 (x8.2 + 1))))
 else
  some (.inr x8.2)
noncomputable def spec_WalkDigits (a0 : (List (List Int))) (a1 : Int) : Option (Int × Bool) :=
 (spec_grGood a0).bind fun v1 =>
 (if (!v1) = true then
   some true
  else
   (spec_grSteps a1).bind fun v2 =>
   some (!v2)).bind fun w3 =>
 if w3 = true then
  some (0, false)
 else
  (spec_gwTotal a0 a1).bind fun v5 =>
  if ((v5 == 0) || (decide (v5 > 1000000000))) = true then
   some (0, false)
  else
   (loopO spec_WalkDigits_b1 (v5, 0)).bind fun y9 => spec_WalkDigits_k1 y9
noncomputable def impl_WalkDigits_k1  (x3 : Int) : Option (Int × Bool) :=
 some (x3, true)
noncomputable def impl_WalkDigits_b1  (x4 : Qr) : Option (Qr ⊕ Int) :=
 if (decide (x4.1 > 1)) = true then
  some (.inl ((w64 (Int.tdiv x4.1 2)), (w64 (x4.2 + 1))))
 else
  some (.inr x4.2)
noncomputable def impl_WalkDigits (a0 : (List (List Int))) (a1 : Int) : Option (Int × Bool) :=
 (impl_TotalWalks a0 a1).bind fun v1 =>
 if ((!v1.2) || (v1.1 == 0)) = true then
  some (0, false)
 else
  (loopO impl_WalkDigits_b1 (v1.1, 0)).bind fun y5 => impl_WalkDigits_k1 y5
noncomputable def spec_gwWalks_k2  (x3 : (List Int)) : Option ((List Int) × Bool) :=
 some (x3, true)
noncomputable def spec_gwWalks_k3 (x4 : (Int × (List Int))) (x7 : (List Int)) : Option ((Int × (List Int)) ⊕ (((List Int) × Bool) ⊕ (List Int))) :=
 some (.inl ((w64 (x4.1 - 1)), x7))
noncomputable def spec_gwWalks_k4 (x4 : (Int × (List Int))) (x8 : (List Int)) : Option ((Int × (List Int)) ⊕ (((List Int) × Bool) ⊕ (List Int))) :=
 (spec_gwVector x8).bind fun v9 =>
 if (!v9) = true then
  some (.inr (.inl ([], false)))
 else
  spec_gwWalks_k3 x4 x8
noncomputable def spec_gwWalks_b2 (v11 : (List Int)) (x12 : ((List Int) × Int)) : Option (((List Int) × Int) ⊕ (List Int)) :=
 if (decide (x12.2 < (v11.length : Int))) = true then
  (idxO v11 x12.2).bind fun v15 =>
  (idxO x12.1 x12.2).bind fun v16 =>
  some (.inl ((x12.1.set (Int.toNat x12.2) (w64 (v16 + v15))), (w64 (x12.2 + 1))))
 else
  some (.inr x12.1)
noncomputable def spec_gwWalks_b1 (a0 : (List (List Int))) (x4 : (Int × (List Int))) : Option ((Int × (List Int)) ⊕ (((List Int) × Bool) ⊕ (List Int))) :=
 if (decide (x4.1 > 0)) = true then
  (spec_gwTimes a0 x4.2).bind fun v11 =>
  (loopO (spec_gwWalks_b2 v11) (x4.2, 0)).bind fun y13 => spec_gwWalks_k4 x4 y13
 else
  some (.inr (.inr x4.2))
noncomputable def spec_gwWalks_k1 (a0 : (List (List Int))) (a1 : Int) (x2 : (List Int)) : Option ((List Int) × Bool) :=
 (loopO (spec_gwWalks_b1 a0) (a1, x2)).bind fun y5 => (Sum.elim (fun p => some p) (fun p => spec_gwWalks_k2 p)) y5
noncomputable def spec_gwWalks_b3 (a0 : (List (List Int))) (x17 : ((List Int) × Int)) : Option (((List Int) × Int) ⊕ (List Int)) :=
 if (decide (x17.2 < ((List.replicate (Int.toNat (a0.length : Int)) (0 : Int)).length : Int))) = true then
  (idxO x17.1 x17.2).bind fun v20 =>
  some (.inl ((x17.1.set (Int.toNat x17.2) 1), (w64 (x17.2 + 1))))
 else
  some (.inr x17.1)
noncomputable def spec_gwWalks (a0 : (List (List Int))) (a1 : Int) : Option ((List Int) × Bool) :=
 (guardO (0 ≤ (a0.length : Int) ∧ (a0.length : Int) ≤ 1099511627776)).bind fun u1 =>
 (loopO (spec_gwWalks_b3 a0) ((List.replicate (Int.toNat (a0.length : Int)) (0 : Int)), 0)).bind fun y18 => spec_gwWalks_k1 a0 a1 y18
noncomputable def impl_walkVectors_k1  (x2 : (List (List Int))) : Option (List (List Int)) :=
 some x2
noncomputable def impl_walkVectors_k2 (x3 : ((List Int) × (List (List Int)) × Int)) (x6 : ((List Int) × (List (List Int)))) : Option (((List Int) × (List (List Int)) × Int) ⊕ (List (List Int))) :=
 some (.inl (x6.1, x6.2, (w64 (x3.2.2 + 1))))
noncomputable def impl_walkVectors_k3 (x3 : ((List Int) × (List (List Int)) × Int)) (x8 : (List Int)) : Option (((List Int) × (List (List Int)) × Int) ⊕ (List (List Int))) :=
 (impl_isVector x8).bind fun v9 =>
 if (!v9) = true then
  some (.inr x3.2.1)
 else
  (guardO (x3.2.1.length + ([x8]).length ≤ 1099511627776)).bind fun u11 =>
  impl_walkVectors_k2 x3 (x8, (x3.2.1 ++ [x8]))
noncomputable def impl_walkVectors_b2 (x3 : ((List Int) × (List (List Int)) × Int)) (v7 : (List Int)) (x12 : ((List Int) × Int)) : Option (((List Int) × Int) ⊕ (List Int)) :=
 if (decide (x12.2 < (v7.length : Int))) = true then
  (idxO x12.1 x12.2).bind fun v15 =>
  (idxO x3.1 x12.2).bind fun v16 =>
  some (.inl ((x12.1.set (Int.toNat x12.2) (w64 (v15 + v16))), (w64 (x12.2 + 1))))
 else
  some (.inr x12.1)
noncomputable def impl_walkVectors_b1 (a0 : (List (List Int))) (a1 : Int) (x3 : ((List Int) × (List (List Int)) × Int)) : Option (((List Int) × (List (List Int)) × Int) ⊕ (List (List Int))) :=
 if (decide (x3.2.2 < a1)) = true then
  (impl_times a0 x3.1).bind fun v7 =>
  (loopO (impl_walkVectors_b2 x3 v7) (v7, 0)).bind fun y13 => impl_walkVectors_k3 x3 y13
 else
  some (.inr x3.2.1)
noncomputable def impl_walkVectors (a0 : (List (List Int))) (a1 : Int) : Option (List (List Int)) :=
 (slices_Repeat_Lint_int ([1]) (a0.length : Int)).bind fun v1 =>
 (loopO (impl_walkVectors_b1 a0 a1) (v1, [v1], 0)).bind fun y4 => impl_walkVectors_k1 y4
noncomputable def spec_raMake_k1 (a0 : Int) (a1 : Int) (x5 : Int) : Option (Qr × Bool) :=
 (guardO (x5 ≠ 0)).bind fun u6 =>
 (spec_raGood ((w64 (Int.tdiv a0 x5)), (w64 (Int.tdiv a1 x5)))).bind fun v7 =>
 if (!v7) = true then
  some ((0, 0), false)
 else
  some (((w64 (Int.tdiv a0 x5)), (w64 (Int.tdiv a1 x5))), true)
noncomputable def spec_raMake (a0 : Int) (a1 : Int) : Option (Qr × Bool) :=
 if (a1 == 0) = true then
  some ((0, 0), false)
 else
  (spec_l1Abs a0).bind fun v2 =>
  (spec_l1Abs a1).bind fun v3 =>
  (spec_raCommon v2 v3).bind fun v4 =>
  if (decide (a1 < 0)) = true then
   spec_raMake_k1 a0 a1 (w64 (0 - v4))
  else
   spec_raMake_k1 a0 a1 v4
noncomputable def spec_gwRatios_k1  (x1 : (List Qr)) : Option (List Qr) :=
 some x1
noncomputable def spec_gwRatios_b1 (a1 : (List Int)) (v2 : (List Int)) (x3 : ((List Qr) × Int)) : Option (((List Qr) × Int) ⊕ (List Qr)) :=
 if (decide (x3.2 < (v2.length : Int))) = true then
  (idxO v2 x3.2).bind fun v6 =>
  (idxO a1 x3.2).bind fun v7 =>
  (spec_raMake v6 v7).bind fun v8 =>
  (guardO (x3.1.length + ([v8.1]).length ≤ 1099511627776)).bind fun u9 =>
  some (.inl ((x3.1 ++ [v8.1]), (w64 (x3.2 + 1))))
 else
  some (.inr x3.1)
noncomputable def spec_gwRatios (a0 : (List (List Int))) (a1 : (List Int)) : Option (List Qr) :=
 (spec_gwTimes a0 a1).bind fun v2 =>
 (loopO (spec_gwRatios_b1 a1 v2) ([], 0)).bind fun y4 => spec_gwRatios_k1 y4
noncomputable def spec_l1Sign (a0 : Int) : Option Int :=
 if (decide (a0 > 0)) = true then
  some 1
 else
  if (decide (a0 < 0)) = true then
   some (-1)
  else
   some 0
noncomputable def spec_raCmp (a0 : Qr) (a1 : Qr) : Option Int :=
 (spec_l1Sign (w64 ((w64 (a0.1 * a1.2)) - (w64 (a1.1 * a0.2))))).bind fun v1 =>
 some v1
noncomputable def spec_ivLess (a0 : Qr) (a1 : Qr) : Option Qr :=
 (spec_raCmp a0 a1).bind fun v1 =>
 if (decide (v1 < 0)) = true then
  some a0
 else
  some a1
noncomputable def spec_ivGreater (a0 : Qr) (a1 : Qr) : Option Qr :=
 (spec_raCmp a0 a1).bind fun v1 =>
 if (decide (v1 < 0)) = true then
  some a1
 else
  some a0
noncomputable def spec_gwBounds_k1  (x3 : (Int × Int × Int × Int)) : Option Qp :=
 some ((x3.1, x3.2.1), x3.2.2)
noncomputable def spec_gwBounds_b1 (v1 : (List Qr)) (x4 : (Int × Int × Int × Int × Int)) : Option ((Int × Int × Int × Int × Int) ⊕ (Int × Int × Int × Int)) :=
 if (decide (x4.2.2.2.2 < (v1.length : Int))) = true then
  (idxO v1 x4.2.2.2.2).bind fun v7 =>
  (spec_ivLess (x4.1, x4.2.1) v7).bind fun v8 =>
  (spec_ivGreater (x4.2.2.1, x4.2.2.2.1) v7).bind fun v9 =>
  some (.inl (v8.1, v8.2, v9.1, v9.2, (w64 (x4.2.2.2.2 + 1))))
 else
  some (.inr (x4.1, x4.2.1, x4.2.2.1, x4.2.2.2.1))
noncomputable def spec_gwBounds (a0 : (List (List Int))) (a1 : (List Int)) : Option Qp :=
 (spec_gwRatios a0 a1).bind fun v1 =>
 (idxO v1 0).bind fun v2 =>
 (loopO (spec_gwBounds_b1 v1) (v2.1, v2.2, v2.1, v2.2, 0)).bind fun y5 => spec_gwBounds_k1 y5
noncomputable def slices_MinFunc_Limpl_Rat_impl_Rat_k2  (x3 : Qr) : Option Qr :=
 some x3
noncomputable def slices_MinFunc_Limpl_Rat_impl_Rat_b1 (a0 : (List Qr)) (a1 : Qr → Qr → Option Int) (x4 : (Int × Int × Int)) : Option ((Int × Int × Int) ⊕ Qr) :=
 if (decide (x4.2.2 < (a0.length : Int))) = true then
  (idxO a0 x4.2.2).bind fun v7 =>
  (a1 v7 (x4.1, x4.2.1)).bind fun v8 =>
  if (decide (v8 < 0)) = true then
   some (.inl (v7.1, v7.2, (w64 (x4.2.2 + 1))))
  else
   some (.inl (x4.1, x4.2.1, (w64 (x4.2.2 + 1))))
 else
  some (.inr (x4.1, x4.2.1))
noncomputable def slices_MinFunc_Limpl_Rat_impl_Rat_k1 (a0 : (List Qr)) (a1 : Qr → Qr → Option Int) (x1 : Unit) : Option Qr :=
 (idxO a0 0).bind fun v2 =>
 (loopO (slices_MinFunc_Limpl_Rat_impl_Rat_b1 a0 a1) (v2.1, v2.2, 1)).bind fun y5 => slices_MinFunc_Limpl_Rat_impl_Rat_k2 y5
noncomputable def slices_MinFunc_Limpl_Rat_impl_Rat (a0 : (List Qr)) (a1 : (Qr → Qr → Option Int)) : Option Qr :=
 if (decide ((a0.length : Int) < 1)) = true then
  none
 else
  slices_MinFunc_Limpl_Rat_impl_Rat_k1 a0 a1 ()
noncomputable def slices_MaxFunc_Limpl_Rat_impl_Rat_k2  (x3 : Qr) : Option Qr :=
 some x3
noncomputable def slices_MaxFunc_Limpl_Rat_impl_Rat_b1 (a0 : (List Qr)) (a1 : Qr → Qr → Option Int) (x4 : (Int × Int × Int)) : Option ((Int × Int × Int) ⊕ Qr) :=
 if (decide (x4.2.2 < (a0.length : Int))) = true then
  (idxO a0 x4.2.2).bind fun v7 =>
  (a1 v7 (x4.1, x4.2.1)).bind fun v8 =>
  if (decide (v8 > 0)) = true then
   some (.inl (v7.1, v7.2, (w64 (x4.2.2 + 1))))
  else
   some (.inl (x4.1, x4.2.1, (w64 (x4.2.2 + 1))))
 else
  some (.inr (x4.1, x4.2.1))
noncomputable def slices_MaxFunc_Limpl_Rat_impl_Rat_k1 (a0 : (List Qr)) (a1 : Qr → Qr → Option Int) (x1 : Unit) : Option Qr :=
 (idxO a0 0).bind fun v2 =>
 (loopO (slices_MaxFunc_Limpl_Rat_impl_Rat_b1 a0 a1) (v2.1, v2.2, 1)).bind fun y5 => slices_MaxFunc_Limpl_Rat_impl_Rat_k2 y5
noncomputable def slices_MaxFunc_Limpl_Rat_impl_Rat (a0 : (List Qr)) (a1 : (Qr → Qr → Option Int)) : Option Qr :=
 if (decide ((a0.length : Int) < 1)) = true then
  none
 else
  slices_MaxFunc_Limpl_Rat_impl_Rat_k1 a0 a1 ()
noncomputable def impl_ratioBounds_k1  (x1 : (List Qr)) : Option Qp :=
 (slices_MinFunc_Limpl_Rat_impl_Rat x1 (fun x0 x1 => impl_compare x0 x1)).bind fun v2 =>
 (slices_MaxFunc_Limpl_Rat_impl_Rat x1 (fun x0 x1 => impl_compare x0 x1)).bind fun v3 =>
 some (v2, v3)
noncomputable def impl_ratioBounds_b1 (a1 : (List Int)) (v4 : (List Int)) (x5 : ((List Qr) × Int)) : Option (((List Qr) × Int) ⊕ (List Qr)) :=
 if (decide (x5.2 < (v4.length : Int))) = true then
  (idxO v4 x5.2).bind fun v8 =>
  (idxO a1 x5.2).bind fun v9 =>
  (impl_lowest v8 v9).bind fun v10 =>
  (guardO (x5.1.length + ([v10.1]).length ≤ 1099511627776)).bind fun u11 =>
  some (.inl ((x5.1 ++ [v10.1]), (w64 (x5.2 + 1))))
 else
  some (.inr x5.1)
noncomputable def impl_ratioBounds (a0 : (List (List Int))) (a1 : (List Int)) : Option Qp :=
 (impl_times a0 a1).bind fun v4 =>
 (loopO (impl_ratioBounds_b1 a1 v4) ([], 0)).bind fun y6 => impl_ratioBounds_k1 y6
noncomputable def spec_l1Cur_next_k1 (a0 : Cu) (x1 : Int) : Option (Int × Cu) :=
 if (decide ((w64 (a0.2.1 + 1)) ≤ (a0.1.length : Int))) = true then
  some (x1, (a0.1, (w64 (a0.2.1 + 1)), (IntKind.wrap .u64 ((IntKind.wrap .u64 ((IntKind.wrap .u64 (a0.2.2 * 6364136223846793005)) + (IntKind.wrap .u64 x1))) + 1442695040888963407))))
 else
  some ((IntKind.wrap .i64 (iand .u64 (ishr .u64 (IntKind.wrap .u64 ((IntKind.wrap .u64 ((IntKind.wrap .u64 (a0.2.2 * 6364136223846793005)) + (IntKind.wrap .u64 x1))) + 1442695040888963407)) 40) 255)), (a0.1, (w64 (a0.2.1 + 1)), (IntKind.wrap .u64 ((IntKind.wrap .u64 ((IntKind.wrap .u64 (a0.2.2 * 6364136223846793005)) + (IntKind.wrap .u64 x1))) + 1442695040888963407))))
noncomputable def spec_l1Cur_next (a0 : Cu) : Option (Int × Cu) :=
 if (decide (a0.2.1 < (a0.1.length : Int))) = true then
  (idxO a0.1 a0.2.1).bind fun v4 =>
  spec_l1Cur_next_k1 a0 (IntKind.wrap .i64 v4)
 else
  spec_l1Cur_next_k1 a0 0
noncomputable def spec_l1Cur_pick_k1 (a1 : Int) (x3 : ((List Int) × Int × Int × Int)) : Option (Int × Cu) :=
 (guardO (a1 ≠ 0)).bind fun u4 =>
 some ((Int.tmod x3.2.2.2 a1), (x3.1, x3.2.1, x3.2.2.1))
noncomputable def spec_l1Cur_pick (a0 : Cu) (a1 : Int) : Option (Int × Cu) :=
 if (decide (a1 ≤ 1)) = true then
  some (0, a0)
 else
  (spec_l1Cur_next a0).bind fun v2 =>
  if (decide (a1 > 200)) = true then
   (spec_l1Cur_next v2.2).bind fun v6 =>
   spec_l1Cur_pick_k1 a1 (v6.2.1, v6.2.2.1, v6.2.2.2, (w64 ((w64 (v2.1 * 256)) + v6.1)))
  else
   spec_l1Cur_pick_k1 a1 (v2.2.1, v2.2.2.1, v2.2.2.2, v2.1)
noncomputable def spec_l1Cur_among (a0 : Cu) (a1 : (List Int)) : Option (Int × Cu) :=
 (spec_l1Cur_pick a0 (a1.length : Int)).bind fun v1 =>
 (idxO a1 v1.1).bind fun v2 =>
 some (v2, v1.2)
noncomputable def spec_l1Cur_one (a0 : Cu) (a1 : Int) : Option (Bool × Cu) :=
 (spec_l1Cur_pick a0 a1).bind fun v1 =>
 some ((v1.1 == 0), v1.2)
noncomputable def spec_raInt (a0 : Int) : Option Qr :=
 some (a0, 1)
noncomputable def spec_l1Cur_rat (a0 : Cu) : Option (Qr × Cu) :=
 (spec_l1Cur_pick a0 41).bind fun v1 =>
 (spec_l1Cur_pick v1.2 2001).bind fun v2 =>
 (spec_l1Cur_among v2.2 ([0, 1, 2, 3, (-1), (-5), (w64 (v1.1 - 20)), (w64 (v2.1 - 1000)), 1000000000, (-1000000000)])).bind fun v3 =>
 (spec_l1Cur_pick v3.2 20).bind fun v4 =>
 (spec_l1Cur_pick v4.2 1000).bind fun v5 =>
 (spec_l1Cur_among v5.2 ([1, 2, 3, 4, 8, 7, (w64 (1 + v4.1)), (w64 (1 + v5.1)), 1000000000, 999999999])).bind fun v6 =>
 (spec_raMake v3.1 v6.1).bind fun v7 =>
 if (!v7.2) = true then
  (spec_raInt 1).bind fun v9 =>
  some (v9, v6.2)
 else
  some (v7.1, v6.2)
noncomputable def spec_l1Cur_anyRat (a0 : Cu) : Option (Qr × Cu) :=
 (spec_l1Cur_rat a0).bind fun v1 =>
 (spec_l1Cur_pick v1.2 40).bind fun v2 =>
 if (v2.1 == 0) = true then
  (spec_l1Cur_among v2.2 ([0, (-1), 1000000001])).bind fun v4 =>
  some ((v1.1.1, v4.1), v4.2)
 else
  if (v2.1 == 1) = true then
   (spec_l1Cur_among v2.2 ([1000000001, (-1000000001), (-9223372036854775808)])).bind fun v6 =>
   some ((v6.1, v1.1.2), v6.2)
  else
   if (v2.1 == 2) = true then
    (spec_l1Cur_among v2.2 ([2, 0, (-4)])).bind fun v8 =>
    (spec_l1Cur_among v8.2 ([2, 4, 6])).bind fun v9 =>
    some ((v8.1, v9.1), v9.2)
   else
    some (v1.1, v2.2)
noncomputable def spec_l1Num_r (rc : (Int → Option ByteArray)) (a0 : Int) : Option ByteArray :=
 if (decide (a0 < 10)) = true then
  some (byteB (IntKind.wrap .u8 (w64 (48 + a0))))
 else
  (rc (w64 (Int.tdiv a0 10))).bind fun v2 =>
  (guardO (v2.size + (byteB (IntKind.wrap .u8 (w64 (48 + (Int.tmod a0 10))))).size ≤ 1099511627776)).bind fun u3 =>
  some (v2 ++ (byteB (IntKind.wrap .u8 (w64 (48 + (Int.tmod a0 10))))))
noncomputable def spec_l1Num_f : Nat → Int → Option ByteArray
 | 0, _ => none
 | k + 1, a0 => spec_l1Num_r (spec_l1Num_f k) a0
noncomputable def spec_l1Num (a0 : Int) : Option ByteArray := fuelO fun k => spec_l1Num_f k a0
noncomputable def spec_l1Int (a0 : Int) : Option ByteArray :=
 if (decide (a0 < 0)) = true then
  (spec_l1Num (w64 (0 - a0))).bind fun v2 =>
  (guardO ((ByteArray.mk #[45]).size + v2.size ≤ 1099511627776)).bind fun u3 =>
  some ((ByteArray.mk #[45]) ++ v2)
 else
  (spec_l1Num a0).bind fun v4 =>
  some v4
noncomputable def spec_raText (a0 : Qr) : Option ByteArray :=
 (spec_l1Int a0.1).bind fun v1 =>
 (guardO (v1.size + (ByteArray.mk #[47]).size ≤ 1099511627776)).bind fun u2 =>
 (spec_l1Num a0.2).bind fun v3 =>
 (guardO ((v1 ++ (ByteArray.mk #[47])).size + v3.size ≤ 1099511627776)).bind fun u4 =>
 some ((v1 ++ (ByteArray.mk #[47])) ++ v3)
noncomputable def strconv_Itoa (a0 : Int) : Option ByteArray :=
 (guardO (-9223372036854775808 ≤ a0 ∧ a0 ≤ 9223372036854775807)).bind fun u1 =>
 some (itoaB a0)
noncomputable def impl_ratText (a0 : Qr) : Option ByteArray :=
 (strconv_Itoa a0.1).bind fun v1 =>
 (guardO (v1.size + (ByteArray.mk #[47]).size ≤ 1099511627776)).bind fun u2 =>
 (strconv_Itoa a0.2).bind fun v3 =>
 (guardO ((v1 ++ (ByteArray.mk #[47])).size + v3.size ≤ 1099511627776)).bind fun u4 =>
 some ((v1 ++ (ByteArray.mk #[47])) ++ v3)
noncomputable def spec_l1Cur_graph_k4  (x6 : ((List Int) × Int × Int × (List (List Int)))) : Option ((List (List Int)) × Cu) :=
 some (x6.2.2.2, (x6.1, x6.2.1, x6.2.2.1))
noncomputable def spec_l1Cur_graph_k5 (x9 : ((List (List Int)) × Int)) (x12 : (List (List Int))) : Option (((List (List Int)) × Int) ⊕ ((List Int) × Int × Int × (List (List Int)))) :=
 some (.inl (x12, (w64 (x9.2 + 1))))
noncomputable def spec_l1Cur_graph_b2 (x9 : ((List (List Int)) × Int)) (v13 : (List Int)) (x14 : ((List (List Int)) × Int)) : Option (((List (List Int)) × Int) ⊕ (List (List Int))) :=
 if (decide (x14.2 < (v13.length : Int))) = true then
  (idxO x14.1 x9.2).bind fun v17 =>
  (idxO v17 x14.2).bind fun v18 =>
  some (.inl ((x14.1.set (Int.toNat x9.2) (v17.set (Int.toNat x14.2) 9)), (w64 (x14.2 + 1))))
 else
  some (.inr x14.1)
noncomputable def spec_l1Cur_graph_b1 (x5 : ((List Int) × Int × Int × (List (List Int)))) (v7 : (Bool × Cu)) (x9 : ((List (List Int)) × Int)) : Option (((List (List Int)) × Int) ⊕ ((List Int) × Int × Int × (List (List Int)))) :=
 if (decide (x9.2 < (x5.2.2.2.length : Int))) = true then
  (idxO x9.1 x9.2).bind fun v13 =>
  (loopO (spec_l1Cur_graph_b2 x9 v13) (x9.1, 0)).bind fun y15 => spec_l1Cur_graph_k5 x9 y15
 else
  some (.inr (v7.2.1, v7.2.2.1, v7.2.2.2, x9.1))
noncomputable def spec_l1Cur_graph_k3  (x5 : ((List Int) × Int × Int × (List (List Int)))) : Option ((List (List Int)) × Cu) :=
 (spec_l1Cur_one (x5.1, x5.2.1, x5.2.2.1) 16).bind fun v7 =>
 if v7.1 = true then
  (loopO (spec_l1Cur_graph_b1 x5 v7) (x5.2.2.2, 0)).bind fun y10 => spec_l1Cur_graph_k4 y10
 else
  spec_l1Cur_graph_k4 (v7.2.1, v7.2.2.1, v7.2.2.2, x5.2.2.2)
noncomputable def spec_l1Cur_graph_k2 (x2 : ((List Int) × Int × Int × Int)) (x4 : ((List Int) × Int × Int × (List (List Int)))) : Option ((List (List Int)) × Cu) :=
 (spec_l1Cur_one (x4.1, x4.2.1, x4.2.2.1) 12).bind fun v19 =>
 if v19.1 = true then
  (spec_l1Cur_pick v19.2 x2.2.2.2).bind fun v21 =>
  (idxO x4.2.2.2 v21.1).bind fun v22 =>
  (spec_l1Cur_pick v21.2 x2.2.2.2).bind fun v23 =>
  (spec_l1Cur_among v23.2 ([3, 9])).bind fun v24 =>
  (idxO v22 v23.1).bind fun v25 =>
  spec_l1Cur_graph_k3 (v24.2.1, v24.2.2.1, v24.2.2.2, (x4.2.2.2.set (Int.toNat v21.1) (v22.set (Int.toNat v23.1) v24.1)))
 else
  spec_l1Cur_graph_k3 (v19.2.1, v19.2.2.1, v19.2.2.2, x4.2.2.2)
noncomputable def spec_l1Cur_graph_k6 (x26 : ((List Int) × Int × Int × (List (List Int)) × Int)) (x29 : ((List Int) × Int × Int × (List (List Int)))) : Option (((List Int) × Int × Int × (List (List Int)) × Int) ⊕ ((List Int) × Int × Int × (List (List Int)))) :=
 some (.inl (x29.1, x29.2.1, x29.2.2.1, x29.2.2.2, (w64 (x26.2.2.2.2 + 1))))
noncomputable def spec_l1Cur_graph_k7 (x26 : ((List Int) × Int × Int × (List (List Int)) × Int)) (x30 : ((List Int) × Int × Int × (List Int))) : Option (((List Int) × Int × Int × (List (List Int)) × Int) ⊕ ((List Int) × Int × Int × (List (List Int)))) :=
 (guardO (x26.2.2.2.1.length + ([x30.2.2.2]).length ≤ 1099511627776)).bind fun u31 =>
 spec_l1Cur_graph_k6 x26 (x30.1, x30.2.1, x30.2.2.1, (x26.2.2.2.1 ++ [x30.2.2.2]))
noncomputable def spec_l1Cur_graph_k8 (x32 : ((List Int) × Int × Int × (List Int) × Int)) (x35 : ((List Int) × Int × Int × Int)) : Option (((List Int) × Int × Int × (List Int) × Int) ⊕ ((List Int) × Int × Int × (List Int))) :=
 (guardO (x32.2.2.2.1.length + ([x35.2.2.2]).length ≤ 1099511627776)).bind fun u36 =>
 some (.inl (x35.1, x35.2.1, x35.2.2.1, (x32.2.2.2.1 ++ [x35.2.2.2]), (w64 (x32.2.2.2.2 + 1))))
noncomputable def spec_l1Cur_graph_b4 (x2 : ((List Int) × Int × Int × Int)) (v3 : (Int × Cu)) (x26 : ((List Int) × Int × Int × (List (List Int)) × Int)) (x32 : ((List Int) × Int × Int × (List Int) × Int)) : Option (((List Int) × Int × Int × (List Int) × Int) ⊕ ((List Int) × Int × Int × (List Int))) :=
 if (decide (x32.2.2.2.2 < x2.2.2.2)) = true then
  (spec_l1Cur_one (x32.1, x32.2.1, x32.2.2.1) v3.1).bind fun v37 =>
  (if v37.1 = true then
    some true
   else
    if (v3.1 == 2) = true then
     (guardO (x2.2.2.2 ≠ 0)).bind fun u38 =>
     some (x32.2.2.2.2 == (Int.tmod (w64 (x26.2.2.2.2 + 1)) x2.2.2.2))
    else
     some false).bind fun w39 =>
  if w39 = true then
   (spec_l1Cur_among v37.2 ([1, 1, 1, 2])).bind fun v41 =>
   spec_l1Cur_graph_k8 x32 (v41.2.1, v41.2.2.1, v41.2.2.2, v41.1)
  else
   spec_l1Cur_graph_k8 x32 (v37.2.1, v37.2.2.1, v37.2.2.2, 0)
 else
  some (.inr (x32.1, x32.2.1, x32.2.2.1, x32.2.2.2.1))
noncomputable def spec_l1Cur_graph_b3 (x2 : ((List Int) × Int × Int × Int)) (v3 : (Int × Cu)) (x26 : ((List Int) × Int × Int × (List (List Int)) × Int)) : Option (((List Int) × Int × Int × (List (List Int)) × Int) ⊕ ((List Int) × Int × Int × (List (List Int)))) :=
 if (decide (x26.2.2.2.2 < x2.2.2.2)) = true then
  (loopO (spec_l1Cur_graph_b4 x2 v3 x26) (x26.1, x26.2.1, x26.2.2.1, [], 0)).bind fun y33 => spec_l1Cur_graph_k7 x26 y33
 else
  some (.inr (x26.1, x26.2.1, x26.2.2.1, x26.2.2.2.1))
noncomputable def spec_l1Cur_graph_k1  (x2 : ((List Int) × Int × Int × Int)) : Option ((List (List Int)) × Cu) :=
 (spec_l1Cur_among (x2.1, x2.2.1, x2.2.2.1) ([2, 2, 3])).bind fun v3 =>
 (loopO (spec_l1Cur_graph_b3 x2 v3) (v3.2.1, v3.2.2.1, v3.2.2.2, [], 0)).bind fun y27 => spec_l1Cur_graph_k2 x2 y27
noncomputable def spec_l1Cur_graph (a0 : Cu) : Option ((List (List Int)) × Cu) :=
 (spec_l1Cur_pick a0 4).bind fun v1 =>
 (spec_l1Cur_one v1.2 12).bind fun v42 =>
 if v42.1 = true then
  (spec_l1Cur_among v42.2 ([5, 6, 7, 8])).bind fun v44 =>
  spec_l1Cur_graph_k1 (v44.2.1, v44.2.2.1, v44.2.2.2, v44.1)
 else
  spec_l1Cur_graph_k1 (v42.2.1, v42.2.2.1, v42.2.2.2, (w64 (1 + v1.1)))
noncomputable def spec_l1Cur_anyGraph_k1  (x2 : ((List Int) × Int × Int × (List (List Int)))) : Option ((List (List Int)) × Cu) :=
 some (x2.2.2.2, (x2.1, x2.2.1, x2.2.2.1))
noncomputable def spec_l1Cur_anyGraph_b1 (v3 : (Int × Cu)) (x14 : (List (List Int))) : Option ((List (List Int)) ⊕ ((List Int) × Int × Int × (List (List Int)))) :=
 if (decide ((x14.length : Int) < 9)) = true then
  (guardO (0 ≤ (9 : Int) ∧ (9 : Int) ≤ 1099511627776)).bind fun u17 =>
  (guardO (x14.length + ([(List.replicate (Int.toNat (9 : Int)) (0 : Int))]).length ≤ 1099511627776)).bind fun u18 =>
  some (.inl (x14 ++ [(List.replicate (Int.toNat (9 : Int)) (0 : Int))]))
 else
  some (.inr (v3.2.1, v3.2.2.1, v3.2.2.2, x14))
noncomputable def spec_l1Cur_anyGraph (a0 : Cu) : Option ((List (List Int)) × Cu) :=
 (spec_l1Cur_graph a0).bind fun v1 =>
 (spec_l1Cur_pick v1.2 30).bind fun v3 =>
 if (v3.1 == 0) = true then
  (idxO v1.1 0).bind fun v5 =>
  (spec_l1Cur_pick v3.2 (v1.1.length : Int)).bind fun v6 =>
  (spec_l1Cur_among v6.2 ([(-1), 10])).bind fun v7 =>
  (idxO v5 v6.1).bind fun v8 =>
  spec_l1Cur_anyGraph_k1 (v7.2.1, v7.2.2.1, v7.2.2.2, (v1.1.set (Int.toNat 0) (v5.set (Int.toNat v6.1) v7.1)))
 else
  if (v3.1 == 1) = true then
   (idxO v1.1 0).bind fun v10 =>
   (guardO (v10.length + ([1]).length ≤ 1099511627776)).bind fun u11 =>
   spec_l1Cur_anyGraph_k1 (v3.2.1, v3.2.2.1, v3.2.2.2, (v1.1.set (Int.toNat 0) (v10 ++ [1])))
  else
   if (v3.1 == 2) = true then
    some ([], v3.2)
   else
    if (v3.1 == 3) = true then
     (loopO (spec_l1Cur_anyGraph_b1 v3) ([])).bind fun y15 => spec_l1Cur_anyGraph_k1 y15
    else
     spec_l1Cur_anyGraph_k1 (v3.2.1, v3.2.2.1, v3.2.2.2, v1.1)
noncomputable def impl_BestGrowth (a0 : (List (List Int))) : Option (Qr × Qr × Int × Bool) :=
 (impl_isGraph a0).bind fun v1 =>
 if (!v1) = true then
  some ((0, 0), (0, 0), 0, false)
 else
  (impl_walkVectors a0 20).bind fun v3 =>
  (idxO v3 (w64 ((v3.length : Int) - 1))).bind fun v4 =>
  (impl_ratioBounds a0 v4).bind fun v5 =>
  some (v5.1, v5.2, (w64 ((v3.length : Int) - 1)), true)
noncomputable def spec_gwBest_k1 (a0 : (List (List Int))) (x2 : (Int × (List Int))) : Option (Qr × Qr × Int) :=
 (spec_gwBounds a0 x2.2).bind fun v3 =>
 some (v3.1, v3.2, x2.1)
noncomputable def spec_gwBest_b1 (a0 : (List (List Int))) (x4 : (Int × (List Int))) : Option ((Int × (List Int)) ⊕ (Int × (List Int))) :=
 if (decide (x4.1 < 20)) = true then
  (spec_gwWalks a0 (w64 (x4.1 + 1))).bind fun v7 =>
  if (!v7.2) = true then
   some (.inr x4)
  else
   some (.inl ((w64 (x4.1 + 1)), v7.1))
 else
  some (.inr x4)
noncomputable def spec_gwBest (a0 : (List (List Int))) : Option (Qr × Qr × Int) :=
 (spec_gwWalks a0 0).bind fun v1 =>
 (loopO (spec_gwBest_b1 a0) (0, v1.1)).bind fun y5 => spec_gwBest_k1 a0 y5
noncomputable def spec_BestGrowth (a0 : (List (List Int))) : Option (Qr × Qr × Int × Bool) :=
 (spec_grGood a0).bind fun v1 =>
 if (!v1) = true then
  some ((0, 0), (0, 0), 0, false)
 else
  (spec_gwBest a0).bind fun v3 =>
  some (v3.1, v3.2.1, v3.2.2, true)
noncomputable def laws_qInts_k1  (x2 : Unit) : Option Bool :=
 some true
noncomputable def laws_qInts_b1 (a0 : (List Int)) (a1 : (List Int)) (x3 : Int) : Option (Int ⊕ (Bool ⊕ Unit)) :=
 if (decide (x3 < (a0.length : Int))) = true then
  (idxO a0 x3).bind fun v6 =>
  (idxO a1 x3).bind fun v7 =>
  if (v6 != v7) = true then
   some (.inr (.inl false))
  else
   some (.inl (w64 (x3 + 1)))
 else
  some (.inr (.inr ()))
noncomputable def laws_qInts (a0 : (List Int)) (a1 : (List Int)) : Option Bool :=
 if ((a0.length : Int) != (a1.length : Int)) = true then
  some false
 else
  (loopO (laws_qInts_b1 a0 a1) 0).bind fun y4 => (Sum.elim (fun p => some p) (fun p => laws_qInts_k1 p)) y4
noncomputable def spec_l1Cur_walkSteps (a0 : Cu) : Option (Int × Cu) :=
 (spec_l1Cur_among a0 ([13, (-1)])).bind fun v1 =>
 (spec_l1Cur_among v1.2 ([0, 1, 2, 3, 5, 8, 12, v1.1])).bind fun v2 =>
 some v2
noncomputable def spec_DrawPowerOf (a0 : (List Int)) : Option ((List (List Int)) × Int) :=
 (spec_l1Cur_anyGraph (a0, 0, 0)).bind fun v1 =>
 (spec_l1Cur_walkSteps v1.2).bind fun v2 =>
 some (v1.1, v2.1)
noncomputable def spec_DrawTotalWalks (a0 : (List Int)) : Option ((List (List Int)) × Int) :=
 (spec_DrawPowerOf a0).bind fun v1 =>
 some v1
noncomputable def spec_DrawGrowsFaster (a0 : (List Int)) : Option ((List (List Int)) × (List (List Int))) :=
 (spec_l1Cur_anyGraph (a0, 0, 0)).bind fun v1 =>
 (spec_l1Cur_anyGraph v1.2).bind fun v2 =>
 some (v1.1, v2.1)
noncomputable def impl_GrowsFaster (a0 : (List (List Int))) (a1 : (List (List Int))) : Option (Bool × Bool) :=
 (impl_BestGrowth a0).bind fun v1 =>
 (impl_BestGrowth a1).bind fun v2 =>
 if ((!v1.2.2.2) || (!v2.2.2.2)) = true then
  some (false, false)
 else
  (impl_less v2.2.1 v1.1).bind fun v4 =>
  some (v4, true)
noncomputable def spec_GrowsFaster (a0 : (List (List Int))) (a1 : (List (List Int))) : Option (Bool × Bool) :=
 (spec_grGood a0).bind fun v1 =>
 (if (!v1) = true then
   some true
  else
   (spec_grGood a1).bind fun v2 =>
   some (!v2)).bind fun w3 =>
 if w3 = true then
  some (false, false)
 else
  (spec_gwBest a0).bind fun v5 =>
  (spec_gwBest a1).bind fun v6 =>
  (spec_raCmp v5.1 v6.2.1).bind fun v7 =>
  some ((decide (v7 > 0)), true)
noncomputable def spec_DrawBoundsText_k1 (v1 : (Qr × Cu)) (x7 : Qr) : Option Qp :=
 some (v1.1, x7)
noncomputable def spec_DrawBoundsText (a0 : (List Int)) : Option Qp :=
 (spec_l1Cur_rat (a0, 0, 0)).bind fun v1 =>
 (spec_l1Cur_rat v1.2).bind fun v2 =>
 (spec_raCmp v1.1 v2.1).bind fun v3 =>
 (if (decide (v3 > 0)) = true then
   (spec_l1Cur_one v2.2 8).bind fun v4 =>
   some (v4.2.1, v4.2.2.1, v4.2.2.2, (!v4.1))
  else
   some (v2.2.1, v2.2.2.1, v2.2.2.2, false)).bind fun w5 =>
 if w5.2.2.2 = true then
  some (v2.1, v1.1)
 else
  (spec_l1Cur_one (w5.1, w5.2.1, w5.2.2.1) 12).bind fun v8 =>
  if v8.1 = true then
   (spec_l1Cur_anyRat v8.2).bind fun v10 =>
   spec_DrawBoundsText_k1 v1 v10.1
  else
   spec_DrawBoundsText_k1 v1 v2.1
noncomputable def impl_BoundsText (a0 : Qr) (a1 : Qr) : Option (ByteArray × Bool) :=
 (impl_areRats ([a0, a1])).bind fun v1 =>
 (if (!v1) = true then
   some true
  else
   (impl_less a1 a0).bind fun v2 =>
   some v2).bind fun w3 =>
 if w3 = true then
  some (ByteArray.empty, false)
 else
  (impl_ratText a0).bind fun v5 =>
  (guardO (v5.size + (ByteArray.mk #[46, 46]).size ≤ 1099511627776)).bind fun u6 =>
  (impl_ratText a1).bind fun v7 =>
  (guardO ((v5 ++ (ByteArray.mk #[46, 46])).size + v7.size ≤ 1099511627776)).bind fun u8 =>
  some (((v5 ++ (ByteArray.mk #[46, 46])) ++ v7), true)
noncomputable def spec_BoundsText (a0 : Qr) (a1 : Qr) : Option (ByteArray × Bool) :=
 (spec_raGood a0).bind fun v1 =>
 (if (!v1) = true then
   some true
  else
   (spec_raGood a1).bind fun v2 =>
   if (!v2) = true then
    some true
   else
    (spec_raCmp a0 a1).bind fun v3 =>
    some (decide (v3 > 0))).bind fun w4 =>
 if w4 = true then
  some (ByteArray.empty, false)
 else
  (spec_raText a0).bind fun v6 =>
  (guardO (v6.size + (ByteArray.mk #[46, 46]).size ≤ 1099511627776)).bind fun u7 =>
  (spec_raText a1).bind fun v8 =>
  (guardO ((v6 ++ (ByteArray.mk #[46, 46])).size + v8.size ≤ 1099511627776)).bind fun u9 =>
  some (((v6 ++ (ByteArray.mk #[46, 46])) ++ v8), true)
noncomputable def slices_Max_Lint_int_k2  (x3 : Int) : Option Int :=
 some x3
noncomputable def slices_Max_Lint_int_b1 (a0 : (List Int)) (x4 : Qr) : Option (Qr ⊕ Int) :=
 if (decide (x4.2 < (a0.length : Int))) = true then
  (idxO a0 x4.2).bind fun v7 =>
  some (.inl ((if x4.1 < v7 then v7 else x4.1), (w64 (x4.2 + 1))))
 else
  some (.inr x4.1)
noncomputable def slices_Max_Lint_int_k1 (a0 : (List Int)) (x1 : Unit) : Option Int :=
 (idxO a0 0).bind fun v2 =>
 (loopO (slices_Max_Lint_int_b1 a0) (v2, 1)).bind fun y5 => slices_Max_Lint_int_k2 y5
noncomputable def slices_Max_Lint_int (a0 : (List Int)) : Option Int :=
 if (decide ((a0.length : Int) < 1)) = true then
  none
 else
  slices_Max_Lint_int_k1 a0 ()
noncomputable def impl_PowerOf_1 (a0 : (List Int)) : Option Bool :=
 (slices_Max_Lint_int a0).bind fun v1 =>
 some (decide (v1 > 1000000000))
noncomputable def impl_PowerOf (a0 : (List (List Int))) (a1 : Int) : Option ((List (List Int)) × Bool) :=
 (impl_isWalk a0 a1).bind fun v1 =>
 if (!v1) = true then
  some ([], false)
 else
  (impl_power a0 a1).bind fun v3 =>
  (slices_ContainsFunc_LLint_Lint v3 (fun x0 => impl_PowerOf_1 x0)).bind fun v4 =>
  if v4 = true then
   some ([], false)
  else
   some (v3, true)
noncomputable def spec_PowerOf_k1 (v5 : (List (List Int))) (x6 : Unit) : Option ((List (List Int)) × Bool) :=
 some (v5, true)
noncomputable def spec_PowerOf_b1 (v5 : (List (List Int))) (x7 : Int) : Option (Int ⊕ (((List (List Int)) × Bool) ⊕ Unit)) :=
 if (decide (x7 < (v5.length : Int))) = true then
  (idxO v5 x7).bind fun v10 =>
  (spec_l1All v10 0 1000000000).bind fun v11 =>
  if (!v11) = true then
   some (.inr (.inl ([], false)))
  else
   some (.inl (w64 (x7 + 1)))
 else
  some (.inr (.inr ()))
noncomputable def spec_PowerOf (a0 : (List (List Int))) (a1 : Int) : Option ((List (List Int)) × Bool) :=
 (spec_grGood a0).bind fun v1 =>
 (if (!v1) = true then
   some true
  else
   (spec_grSteps a1).bind fun v2 =>
   some (!v2)).bind fun w3 =>
 if w3 = true then
  some ([], false)
 else
  (spec_grPower a0 a1).bind fun v5 =>
  (loopO (spec_PowerOf_b1 v5) 0).bind fun y8 => (Sum.elim (fun p => some p) (fun p => spec_PowerOf_k1 v5 p)) y8
noncomputable def laws_qLists_k1  (x2 : Unit) : Option Bool :=
 some true
noncomputable def laws_qLists_b1 (a0 : (List (List Int))) (a1 : (List (List Int))) (x3 : Int) : Option (Int ⊕ (Bool ⊕ Unit)) :=
 if (decide (x3 < (a0.length : Int))) = true then
  (idxO a0 x3).bind fun v6 =>
  (idxO a1 x3).bind fun v7 =>
  (laws_qInts v6 v7).bind fun v8 =>
  if (!v8) = true then
   some (.inr (.inl false))
  else
   some (.inl (w64 (x3 + 1)))
 else
  some (.inr (.inr ()))
noncomputable def laws_qLists (a0 : (List (List Int))) (a1 : (List (List Int))) : Option Bool :=
 if ((a0.length : Int) != (a1.length : Int)) = true then
  some false
 else
  (loopO (laws_qLists_b1 a0 a1) 0).bind fun y4 => (Sum.elim (fun p => some p) (fun p => laws_qLists_k1 p)) y4
noncomputable def laws_FnWalkCounts_k2 (v4 : (Int × Bool)) (x24 : Int) : Option Bool :=
 some (x24 == v4.1)
noncomputable def laws_FnWalkCounts_k3 (x25 : Qr) (x28 : Int) : Option (Qr ⊕ Int) :=
 some (.inl (x28, (w64 (x25.2 + 1))))
noncomputable def laws_FnWalkCounts_b2 (v29 : (List Int)) (x30 : Qr) : Option (Qr ⊕ Int) :=
 if (decide (x30.2 < (v29.length : Int))) = true then
  (idxO v29 x30.2).bind fun v33 =>
  some (.inl ((w64 (x30.1 + v33)), (w64 (x30.2 + 1))))
 else
  some (.inr x30.1)
noncomputable def laws_FnWalkCounts_b1 (v20 : ((List (List Int)) × Bool)) (x25 : Qr) : Option (Qr ⊕ Int) :=
 if (decide (x25.2 < (v20.1.length : Int))) = true then
  (idxO v20.1 x25.2).bind fun v29 =>
  (loopO (laws_FnWalkCounts_b2 v29) (x25.1, 0)).bind fun y31 => laws_FnWalkCounts_k3 x25 y31
 else
  some (.inr x25.1)
noncomputable def laws_FnWalkCounts_k1 (v2 : ((List (List Int)) × Int)) (v3 : (Int × Bool)) (v4 : (Int × Bool)) (v5 : (Int × Bool)) (v6 : (Int × Bool)) (x14 : Unit) : Option Bool :=
 (if v5.2 = true then
   (guardO (0 ≤ (IntKind.wrap .u64 v6.1))).bind fun u15 =>
   some ((ishr .i64 v4.1 (IntKind.wrap .u64 v6.1)) != 1)
  else
   some false).bind fun w16 =>
 if w16 = true then
  some false
 else
  if (!v3.2) = true then
   some true
  else
   (impl_PowerOf v2.1 v2.2).bind fun v19 =>
   (spec_PowerOf v2.1 v2.2).bind fun v20 =>
   (if (!v19.2) = true then
     some true
    else
     if (!v20.2) = true then
      some true
     else
      (laws_qLists v19.1 v20.1).bind fun v21 =>
      some (!v21)).bind fun w22 =>
   if w22 = true then
    some false
   else
    (loopO (laws_FnWalkCounts_b1 v20) (0, 0)).bind fun y26 => laws_FnWalkCounts_k2 v4 y26
noncomputable def laws_FnWalkCounts (a0 : (List Int)) (a1 : (List Int)) : Option Bool :=
 if (decide ((w64 ((a0.length : Int) + (a1.length : Int))) > 1048576)) = true then
  some true
 else
  (spec_DrawTotalWalks a0).bind fun v2 =>
  (impl_TotalWalks v2.1 v2.2).bind fun v3 =>
  (spec_TotalWalks v2.1 v2.2).bind fun v4 =>
  (impl_WalkDigits v2.1 v2.2).bind fun v5 =>
  (spec_WalkDigits v2.1 v2.2).bind fun v6 =>
  (spec_DrawGrowsFaster a1).bind fun v7 =>
  (impl_GrowsFaster v7.1 v7.2).bind fun v8 =>
  (spec_GrowsFaster v7.1 v7.2).bind fun v9 =>
  (spec_DrawBoundsText a1).bind fun v10 =>
  (impl_BoundsText v10.1 v10.2).bind fun v11 =>
  (spec_BoundsText v10.1 v10.2).bind fun v12 =>
  if ((!(v3.2 == v4.2)) || ((v3.1 != v4.1) || ((!(v5.2 == v6.2)) || ((v5.1 != v6.1) || ((!(v8.2 == v9.2)) || ((!(v8.1 == v9.1)) || ((!(v11.2 == v12.2)) || ((!(v11.1.toList == v12.1.toList)) || (if v3.2 then (!(v5.2 == (decide (v4.1 > 0)))) else (!(v5.2 == false))))))))))) = true then
   some false
  else
   if v8.2 = true then
    (impl_GrowsFaster v7.2 v7.1).bind fun v35 =>
    if ((!v35.2) || (v35.1 && v9.1)) = true then
     some false
    else
     laws_FnWalkCounts_k1 v2 v3 v4 v5 v6 ()
   else
    laws_FnWalkCounts_k1 v2 v3 v4 v5 v6 ()
end Go.PV
