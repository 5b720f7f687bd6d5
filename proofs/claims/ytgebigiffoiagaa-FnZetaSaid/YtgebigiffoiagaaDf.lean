/-
  Plain definitions of what the functions answer.
  Conditions: none.
-/
import Derived.Test.YtgebigiffoiagaaPvCx
set_option linter.all false
namespace Go.PV
noncomputable def spec_l1In (a0 : Int) (a1 : Int) (a2 : Int) : Option Bool :=
 some ((decide (a0 ≥ a1)) && (decide (a0 ≤ a2)))
noncomputable def spec_l1All_k1  (x1 : Unit) : Option Bool :=
 some true
noncomputable def spec_l1All_b1 (a0 : (List Int)) (a1 : Int) (a2 : Int) (x2 : Int) : Option (Int ⊕ (Bool ⊕ Unit)) :=
 if (decide (x2 < (a0.length : Int))) = true then
  (idxO a0 x2).bind fun v5 =>
  (spec_l1In v5 a1 a2).bind fun v6 =>
  if (!v6) = true then
   some (.inr (.inl false))
  else
   some (.inl (w64 (x2 + 1)))
 else
  some (.inr (.inr ()))
noncomputable def spec_l1All (a0 : (List Int)) (a1 : Int) (a2 : Int) : Option Bool :=
 (loopO (spec_l1All_b1 a0 a1 a2) 0).bind fun y3 => (Sum.elim (fun p => some p) (fun p => spec_l1All_k1 p)) y3
noncomputable def impl_within (a0 : Int) (a1 : Int) (a2 : Int) : Option Bool :=
 some ((decide (a1 ≤ a0)) && (decide (a0 ≤ a2)))
noncomputable def slices_IndexFunc_Lint_int_k1  (x1 : Unit) : Option Int :=
 some (-1)
noncomputable def slices_IndexFunc_Lint_int_b1 (a0 : (List Int)) (a1 : Int → Option Bool) (x2 : Int) : Option (Int ⊕ (Int ⊕ Unit)) :=
 if (decide (x2 < (a0.length : Int))) = true then
  (idxO a0 x2).bind fun v5 =>
  (a1 v5).bind fun v6 =>
  if v6 = true then
   some (.inr (.inl x2))
  else
   some (.inl (w64 (x2 + 1)))
 else
  some (.inr (.inr ()))
noncomputable def slices_IndexFunc_Lint_int (a0 : (List Int)) (a1 : (Int → Option Bool)) : Option Int :=
 (loopO (slices_IndexFunc_Lint_int_b1 a0 a1) 0).bind fun y3 => (Sum.elim (fun p => some p) (fun p => slices_IndexFunc_Lint_int_k1 p)) y3
noncomputable def slices_ContainsFunc_Lint_int (a0 : (List Int)) (a1 : (Int → Option Bool)) : Option Bool :=
 (slices_IndexFunc_Lint_int a0 a1).bind fun v1 =>
 some (decide (v1 ≥ 0))
noncomputable def laws_eqIntS_k1  (x2 : Unit) : Option Bool :=
 some true
noncomputable def laws_eqIntS_b1 (a0 : (List Int)) (a1 : (List Int)) (x3 : Int) : Option (Int ⊕ (Bool ⊕ Unit)) :=
 if (decide (x3 < (a0.length : Int))) = true then
  (idxO a0 x3).bind fun v6 =>
  (idxO a1 x3).bind fun v7 =>
  if (v6 != v7) = true then
   some (.inr (.inl false))
  else
   some (.inl (w64 (x3 + 1)))
 else
  some (.inr (.inr ()))
noncomputable def laws_eqIntS (a0 : (List Int)) (a1 : (List Int)) : Option Bool :=
 if ((a0.length : Int) != (a1.length : Int)) = true then
  some false
 else
  (loopO (laws_eqIntS_b1 a0 a1) 0).bind fun y4 => (Sum.elim (fun p => some p) (fun p => laws_eqIntS_k1 p)) y4
noncomputable def spec_raDown (a0 : Int) (a1 : Int) : Option Int :=
 if (a1 == 0) = true then
  some 0
 else
  (guardO (a1 ≠ 0)).bind fun u2 =>
  if (decide ((Int.tmod a0 a1) < 0)) = true then
   some (w64 ((w64 (Int.tdiv a0 a1)) - 1))
  else
   some (w64 (Int.tdiv a0 a1))
noncomputable def spec_raFloor (a0 : Qr) : Option Int :=
 (spec_raDown a0.1 a0.2).bind fun v1 =>
 some v1
noncomputable def impl_floorDivide (a0 : Int) (a1 : Int) : Option Int :=
 (guardO (a1 ≠ 0)).bind fun u1 =>
 if (decide ((Int.tmod a0 a1) < 0)) = true then
  some (w64 ((w64 (Int.tdiv a0 a1)) - 1))
 else
  some (w64 (Int.tdiv a0 a1))
noncomputable def impl_floor (a0 : Qr) : Option Int :=
 (impl_floorDivide a0.1 a0.2).bind fun v1 =>
 some v1
noncomputable def spec_grGood_k1  (x3 : Unit) : Option Bool :=
 some true
noncomputable def spec_grGood_b1 (a0 : (List (List Int))) (x4 : Int) : Option (Int ⊕ (Bool ⊕ Unit)) :=
 if (decide (x4 < (a0.length : Int))) = true then
  (idxO a0 x4).bind fun v7 =>
  (if ((v7.length : Int) != (a0.length : Int)) = true then
    some true
   else
    (spec_l1All v7 0 9).bind fun v8 =>
    some (!v8)).bind fun w9 =>
  if w9 = true then
   some (.inr (.inl false))
  else
   some (.inl (w64 (x4 + 1)))
 else
  some (.inr (.inr ()))
noncomputable def spec_grGood (a0 : (List (List Int))) : Option Bool :=
 (spec_l1In (a0.length : Int) 1 8).bind fun v1 =>
 if (!v1) = true then
  some false
 else
  (loopO (spec_grGood_b1 a0) 0).bind fun y5 => (Sum.elim (fun p => some p) (fun p => spec_grGood_k1 p)) y5
noncomputable def slices_IndexFunc_LLint_Lint_k1  (x1 : Unit) : Option Int :=
 some (-1)
noncomputable def slices_IndexFunc_LLint_Lint_b1 (a0 : (List (List Int))) (a1 : (List Int) → Option Bool) (x2 : Int) : Option (Int ⊕ (Int ⊕ Unit)) :=
 if (decide (x2 < (a0.length : Int))) = true then
  (idxO a0 x2).bind fun v5 =>
  (a1 v5).bind fun v6 =>
  if v6 = true then
   some (.inr (.inl x2))
  else
   some (.inl (w64 (x2 + 1)))
 else
  some (.inr (.inr ()))
noncomputable def slices_IndexFunc_LLint_Lint (a0 : (List (List Int))) (a1 : ((List Int) → Option Bool)) : Option Int :=
 (loopO (slices_IndexFunc_LLint_Lint_b1 a0 a1) 0).bind fun y3 => (Sum.elim (fun p => some p) (fun p => slices_IndexFunc_LLint_Lint_k1 p)) y3
noncomputable def slices_ContainsFunc_LLint_Lint (a0 : (List (List Int))) (a1 : ((List Int) → Option Bool)) : Option Bool :=
 (slices_IndexFunc_LLint_Lint a0 a1).bind fun v1 =>
 some (decide (v1 ≥ 0))
noncomputable def impl_isGraph_1_1 (a0 : Int) : Option Bool :=
 (impl_within a0 0 9).bind fun v1 =>
 some (!v1)
noncomputable def impl_isGraph_1 (a0 : (List Int)) (c0 : (List (List Int))) : Option Bool :=
 (if ((a0.length : Int) != (c0.length : Int)) = true then
   some true
  else
   (slices_ContainsFunc_Lint_int a0 (fun x0 => impl_isGraph_1_1 x0)).bind fun v1 =>
   some v1).bind fun w2 =>
 some w2
noncomputable def impl_isGraph (a0 : (List (List Int))) : Option Bool :=
 (impl_within (a0.length : Int) 1 8).bind fun v1 =>
 (if v1 = true then
   (slices_ContainsFunc_LLint_Lint a0 (fun x0 => impl_isGraph_1 x0 a0)).bind fun v2 =>
   some (!v2)
  else
   some false).bind fun w3 =>
 some w3
noncomputable def spec_grSteps (a0 : Int) : Option Bool :=
 (spec_l1In a0 0 12).bind fun v1 =>
 some v1
noncomputable def spec_l1Least (a0 : Int) (a1 : Int) : Option Int :=
 if (decide (a0 < a1)) = true then
  some a0
 else
  some a1
noncomputable def spec_grCap (a0 : Int) : Option Int :=
 (spec_l1Least a0 1000000001).bind fun v1 =>
 some v1
noncomputable def spec_grPower_k2  (x2 : (List (List Int))) : Option (List (List Int)) :=
 some x2
noncomputable def spec_grPower_k3 (x3 : (Int × (List (List Int)))) (x6 : (List (List Int))) : Option ((Int × (List (List Int))) ⊕ (List (List Int))) :=
 some (.inl ((w64 (x3.1 - 1)), x6))
noncomputable def spec_grPower_k4 (x3 : (Int × (List (List Int)))) (x7 : (List (List Int))) : Option ((Int × (List (List Int))) ⊕ (List (List Int))) :=
 spec_grPower_k3 x3 x7
noncomputable def spec_grPower_k5 (x8 : ((List (List Int)) × Int)) (x11 : (List (List Int))) : Option (((List (List Int)) × Int) ⊕ (List (List Int))) :=
 some (.inl (x11, (w64 (x8.2 + 1))))
noncomputable def spec_grPower_k6 (x8 : ((List (List Int)) × Int)) (x13 : (List Int)) : Option (((List (List Int)) × Int) ⊕ (List (List Int))) :=
 (guardO (x8.1.length + ([x13]).length ≤ 1099511627776)).bind fun u14 =>
 spec_grPower_k5 x8 (x8.1 ++ [x13])
noncomputable def spec_grPower_k7 (x15 : ((List Int) × Int)) (x18 : (List Int)) : Option (((List Int) × Int) ⊕ (List Int)) :=
 some (.inl (x18, (w64 (x15.2 + 1))))
noncomputable def spec_grPower_b4 (a0 : (List (List Int))) (x3 : (Int × (List (List Int)))) (x8 : ((List (List Int)) × Int)) (x15 : ((List Int) × Int)) (x19 : ((List Int) × Int)) : Option (((List Int) × Int) ⊕ (List Int)) :=
 if (decide (x19.2 < (a0.length : Int))) = true then
  (idxO x19.1 x15.2).bind fun v22 =>
  (idxO x3.2 x8.2).bind fun v23 =>
  (idxO v23 x19.2).bind fun v24 =>
  (idxO a0 x19.2).bind fun v25 =>
  (idxO v25 x15.2).bind fun v26 =>
  (spec_grCap (w64 (v22 + (w64 (v24 * v26))))).bind fun v27 =>
  some (.inl ((x19.1.set (Int.toNat x15.2) v27), (w64 (x19.2 + 1))))
 else
  some (.inr x19.1)
noncomputable def spec_grPower_b3 (a0 : (List (List Int))) (x3 : (Int × (List (List Int)))) (x8 : ((List (List Int)) × Int)) (x15 : ((List Int) × Int)) : Option (((List Int) × Int) ⊕ (List Int)) :=
 if (decide (x15.2 < (a0.length : Int))) = true then
  (loopO (spec_grPower_b4 a0 x3 x8 x15) (x15.1, 0)).bind fun y20 => spec_grPower_k7 x15 y20
 else
  some (.inr x15.1)
noncomputable def spec_grPower_b2 (a0 : (List (List Int))) (x3 : (Int × (List (List Int)))) (x8 : ((List (List Int)) × Int)) : Option (((List (List Int)) × Int) ⊕ (List (List Int))) :=
 if (decide (x8.2 < (a0.length : Int))) = true then
  (guardO (0 ≤ (a0.length : Int) ∧ (a0.length : Int) ≤ 1099511627776)).bind fun u12 =>
  (loopO (spec_grPower_b3 a0 x3 x8) ((List.replicate (Int.toNat (a0.length : Int)) (0 : Int)), 0)).bind fun y16 => spec_grPower_k6 x8 y16
 else
  some (.inr x8.1)
noncomputable def spec_grPower_b1 (a0 : (List (List Int))) (x3 : (Int × (List (List Int)))) : Option ((Int × (List (List Int))) ⊕ (List (List Int))) :=
 if (decide (x3.1 > 0)) = true then
  (loopO (spec_grPower_b2 a0 x3) ([], 0)).bind fun y9 => spec_grPower_k4 x3 y9
 else
  some (.inr x3.2)
noncomputable def spec_grPower_k1 (a0 : (List (List Int))) (a1 : Int) (x1 : (List (List Int))) : Option (List (List Int)) :=
 (loopO (spec_grPower_b1 a0) (a1, x1)).bind fun y4 => spec_grPower_k2 y4
noncomputable def spec_grPower_b5 (a0 : (List (List Int))) (x28 : ((List (List Int)) × Int)) : Option (((List (List Int)) × Int) ⊕ (List (List Int))) :=
 if (decide (x28.2 < (a0.length : Int))) = true then
  (guardO (0 ≤ (a0.length : Int) ∧ (a0.length : Int) ≤ 1099511627776)).bind fun u31 =>
  (guardO (x28.1.length + ([(List.replicate (Int.toNat (a0.length : Int)) (0 : Int))]).length ≤ 1099511627776)).bind fun u32 =>
  (idxO (x28.1 ++ [(List.replicate (Int.toNat (a0.length : Int)) (0 : Int))]) x28.2).bind fun v33 =>
  (idxO v33 x28.2).bind fun v34 =>
  some (.inl (((x28.1 ++ [(List.replicate (Int.toNat (a0.length : Int)) (0 : Int))]).set (Int.toNat x28.2) (v33.set (Int.toNat x28.2) 1)), (w64 (x28.2 + 1))))
 else
  some (.inr x28.1)
noncomputable def spec_grPower (a0 : (List (List Int))) (a1 : Int) : Option (List (List Int)) :=
 (loopO (spec_grPower_b5 a0) ([], 0)).bind fun y29 => spec_grPower_k1 a0 a1 y29
noncomputable def impl_isWalk (a0 : (List (List Int))) (a1 : Int) : Option Bool :=
 (impl_isGraph a0).bind fun v1 =>
 (if v1 = true then
   (impl_within a1 0 12).bind fun v2 =>
   some v2
  else
   some false).bind fun w3 =>
 some w3
noncomputable def impl_emptyGraph_k1  (x2 : (List (List Int))) : Option (List (List Int)) :=
 some x2
noncomputable def impl_emptyGraph_b1 (a0 : Int) (x3 : ((List (List Int)) × Int)) : Option (((List (List Int)) × Int) ⊕ (List (List Int))) :=
 if (decide (x3.2 < ((List.replicate (Int.toNat a0) ([] : (List Int))).length : Int))) = true then
  (idxO x3.1 x3.2).bind fun v6 =>
  some (.inl ((x3.1.set (Int.toNat x3.2) (List.replicate (Int.toNat a0) (0 : Int))), (w64 (x3.2 + 1))))
 else
  some (.inr x3.1)
noncomputable def impl_emptyGraph (a0 : Int) : Option (List (List Int)) :=
 (guardO (0 ≤ a0 ∧ a0 ≤ 1099511627776)).bind fun u1 =>
 (loopO (impl_emptyGraph_b1 a0) ((List.replicate (Int.toNat a0) ([] : (List Int))), 0)).bind fun y4 => impl_emptyGraph_k1 y4
noncomputable def impl_powerUpTo_k2  (x3 : (List (List Int))) : Option (List (List Int)) :=
 some x3
noncomputable def impl_powerUpTo_k3 (x4 : ((List (List Int)) × Int)) (x7 : (List (List Int))) : Option (((List (List Int)) × Int) ⊕ (List (List Int))) :=
 some (.inl (x7, (w64 (x4.2 + 1))))
noncomputable def impl_powerUpTo_k4 (x4 : ((List (List Int)) × Int)) (x9 : (List (List Int))) : Option (((List (List Int)) × Int) ⊕ (List (List Int))) :=
 impl_powerUpTo_k3 x4 x9
noncomputable def impl_powerUpTo_k5 (x10 : ((List (List Int)) × Int)) (x13 : (List (List Int))) : Option (((List (List Int)) × Int) ⊕ (List (List Int))) :=
 some (.inl (x13, (w64 (x10.2 + 1))))
noncomputable def impl_powerUpTo_k6 (x15 : ((List (List Int)) × Int)) (x18 : (List (List Int))) : Option (((List (List Int)) × Int) ⊕ (List (List Int))) :=
 some (.inl (x18, (w64 (x15.2 + 1))))
noncomputable def impl_powerUpTo_b4 (a2 : Int) (x10 : ((List (List Int)) × Int)) (v19 : Int) (v20 : (List Int)) (x21 : ((List (List Int)) × Int)) : Option (((List (List Int)) × Int) ⊕ (List (List Int))) :=
 if (decide (x21.2 < (v20.length : Int))) = true then
  (idxO v20 x21.2).bind fun v24 =>
  (idxO x21.1 x10.2).bind fun v25 =>
  (idxO v25 x21.2).bind fun v26 =>
  some (.inl ((x21.1.set (Int.toNat x10.2) (v25.set (Int.toNat x21.2) (if a2 < (w64 (v26 + (w64 (v19 * v24)))) then a2 else (w64 (v26 + (w64 (v19 * v24))))))), (w64 (x21.2 + 1))))
 else
  some (.inr x21.1)
noncomputable def impl_powerUpTo_b3 (a0 : (List (List Int))) (a2 : Int) (x10 : ((List (List Int)) × Int)) (v14 : (List Int)) (x15 : ((List (List Int)) × Int)) : Option (((List (List Int)) × Int) ⊕ (List (List Int))) :=
 if (decide (x15.2 < (v14.length : Int))) = true then
  (idxO v14 x15.2).bind fun v19 =>
  (idxO a0 x15.2).bind fun v20 =>
  (loopO (impl_powerUpTo_b4 a2 x10 v19 v20) (x15.1, 0)).bind fun y22 => impl_powerUpTo_k6 x15 y22
 else
  some (.inr x15.1)
noncomputable def impl_powerUpTo_b2 (a0 : (List (List Int))) (a2 : Int) (x4 : ((List (List Int)) × Int)) (x10 : ((List (List Int)) × Int)) : Option (((List (List Int)) × Int) ⊕ (List (List Int))) :=
 if (decide (x10.2 < (x4.1.length : Int))) = true then
  (idxO x4.1 x10.2).bind fun v14 =>
  (loopO (impl_powerUpTo_b3 a0 a2 x10 v14) (x10.1, 0)).bind fun y16 => impl_powerUpTo_k5 x10 y16
 else
  some (.inr x10.1)
noncomputable def impl_powerUpTo_b1 (a0 : (List (List Int))) (a1 : Int) (a2 : Int) (x4 : ((List (List Int)) × Int)) : Option (((List (List Int)) × Int) ⊕ (List (List Int))) :=
 if (decide (x4.2 < a1)) = true then
  (impl_emptyGraph (a0.length : Int)).bind fun v8 =>
  (loopO (impl_powerUpTo_b2 a0 a2 x4) (v8, 0)).bind fun y11 => impl_powerUpTo_k4 x4 y11
 else
  some (.inr x4.1)
noncomputable def impl_powerUpTo_k1 (a0 : (List (List Int))) (a1 : Int) (a2 : Int) (x2 : (List (List Int))) : Option (List (List Int)) :=
 (loopO (impl_powerUpTo_b1 a0 a1 a2) (x2, 0)).bind fun y5 => impl_powerUpTo_k2 y5
noncomputable def impl_powerUpTo_b5 (v1 : (List (List Int))) (x27 : ((List (List Int)) × Int)) : Option (((List (List Int)) × Int) ⊕ (List (List Int))) :=
 if (decide (x27.2 < (v1.length : Int))) = true then
  (idxO x27.1 x27.2).bind fun v30 =>
  (idxO v30 x27.2).bind fun v31 =>
  some (.inl ((x27.1.set (Int.toNat x27.2) (v30.set (Int.toNat x27.2) 1)), (w64 (x27.2 + 1))))
 else
  some (.inr x27.1)
noncomputable def impl_powerUpTo (a0 : (List (List Int))) (a1 : Int) (a2 : Int) : Option (List (List Int)) :=
 (impl_emptyGraph (a0.length : Int)).bind fun v1 =>
 (loopO (impl_powerUpTo_b5 v1) (v1, 0)).bind fun y28 => impl_powerUpTo_k1 a0 a1 a2 y28
noncomputable def impl_power (a0 : (List (List Int))) (a1 : Int) : Option (List (List Int)) :=
 (impl_powerUpTo a0 a1 1000000001).bind fun v1 =>
 some v1
noncomputable def math_bits_Mul64 (a0 : Int) (a1 : Int) : Option Qr :=
 some ((IntKind.wrap .u64 ((IntKind.wrap .u64 ((IntKind.wrap .u64 ((ishr .u64 a0 32) * (ishr .u64 a1 32))) + (ishr .u64 (IntKind.wrap .u64 ((IntKind.wrap .u64 ((ishr .u64 a0 32) * (iand .u64 a1 4294967295))) + (ishr .u64 (IntKind.wrap .u64 ((iand .u64 a0 4294967295) * (iand .u64 a1 4294967295))) 32))) 32))) + (ishr .u64 (IntKind.wrap .u64 ((iand .u64 (IntKind.wrap .u64 ((IntKind.wrap .u64 ((ishr .u64 a0 32) * (iand .u64 a1 4294967295))) + (ishr .u64 (IntKind.wrap .u64 ((iand .u64 a0 4294967295) * (iand .u64 a1 4294967295))) 32))) 4294967295) + (IntKind.wrap .u64 ((iand .u64 a0 4294967295) * (ishr .u64 a1 32))))) 32))), (IntKind.wrap .u64 (a0 * a1)))
noncomputable def math_bits_Mul (a0 : Int) (a1 : Int) : Option Qr :=
 (math_bits_Mul64 a0 a1).bind fun v2 =>
 some v2
noncomputable def spec_zeLength (a0 : Int) : Option Bool :=
 (spec_l1In a0 1 12).bind fun v1 =>
 some v1
noncomputable def spec_grClosed_k1  (x1 : Int) : Option Int :=
 some x1
noncomputable def spec_grClosed_b1 (v2 : (List (List Int))) (x3 : Qr) : Option (Qr ⊕ Int) :=
 if (decide (x3.2 < (v2.length : Int))) = true then
  (idxO v2 x3.2).bind fun v6 =>
  (idxO v6 x3.2).bind fun v7 =>
  (spec_grCap (w64 (x3.1 + v7))).bind fun v8 =>
  some (.inl (v8, (w64 (x3.2 + 1))))
 else
  some (.inr x3.1)
noncomputable def spec_grClosed (a0 : (List (List Int))) (a1 : Int) : Option Int :=
 (spec_grPower a0 a1).bind fun v2 =>
 (loopO (spec_grClosed_b1 v2) (0, 0)).bind fun y4 => spec_grClosed_k1 y4
noncomputable def spec_zeCycles_r_k1 (a1 : Int) (x3 : Int) : Option Int :=
 (guardO (a1 ≠ 0)).bind fun u4 =>
 some (w64 (Int.tdiv x3 a1))
noncomputable def spec_zeCycles_r_b1 (rc : ((List (List Int)) → Int → Option Int)) (a0 : (List (List Int))) (a1 : Int) (x5 : Qr) : Option (Qr ⊕ Int) :=
 if (decide (x5.2 < a1)) = true then
  (guardO (x5.2 ≠ 0)).bind fun u8 =>
  if ((Int.tmod a1 x5.2) == 0) = true then
   (rc a0 x5.2).bind fun v10 =>
   some (.inl ((w64 (x5.1 - (w64 (x5.2 * v10)))), (w64 (x5.2 + 1))))
  else
   some (.inl (x5.1, (w64 (x5.2 + 1))))
 else
  some (.inr x5.1)
noncomputable def spec_zeCycles_r (rc : ((List (List Int)) → Int → Option Int)) (a0 : (List (List Int))) (a1 : Int) : Option Int :=
 (spec_grClosed a0 a1).bind fun v1 =>
 if (decide (v1 > 1000000000)) = true then
  some (-1)
 else
  (loopO (spec_zeCycles_r_b1 rc a0 a1) (v1, 1)).bind fun y6 => spec_zeCycles_r_k1 a1 y6
noncomputable def spec_zeCycles_f : Nat → (List (List Int)) → Int → Option Int
 | 0, _, _ => none
 | k + 1, a0, a1 => spec_zeCycles_r (spec_zeCycles_f k) a0 a1
noncomputable def spec_zeCycles (a0 : (List (List Int))) (a1 : Int) : Option Int := fuelO fun k => spec_zeCycles_f k a0 a1
noncomputable def impl_isLength (a0 : (List (List Int))) (a1 : Int) : Option Bool :=
 (impl_isGraph a0).bind fun v1 =>
 (if v1 = true then
   (impl_within a1 1 12).bind fun v2 =>
   some v2
  else
   some false).bind fun w3 =>
 some w3
noncomputable def impl_closedWalks_k1  (x1 : Int) : Option (Int × Bool) :=
 if (decide (x1 > 1000000000)) = true then
  some (0, false)
 else
  some (x1, true)
noncomputable def impl_closedWalks_b1 (v3 : (List (List Int))) (x4 : Qr) : Option (Qr ⊕ Int) :=
 if (decide (x4.2 < (v3.length : Int))) = true then
  (idxO v3 x4.2).bind fun v7 =>
  (idxO v7 x4.2).bind fun v8 =>
  some (.inl ((w64 (x4.1 + v8)), (w64 (x4.2 + 1))))
 else
  some (.inr x4.1)
noncomputable def impl_closedWalks (a0 : (List (List Int))) (a1 : Int) : Option (Int × Bool) :=
 (impl_power a0 a1).bind fun v3 =>
 (loopO (impl_closedWalks_b1 v3) (0, 0)).bind fun y5 => impl_closedWalks_k1 y5
noncomputable def impl_moebius_k1  (x1 : Int) : Option Int :=
 some x1
noncomputable def impl_moebius_b1  (x2 : (Int × Int × Int)) : Option ((Int × Int × Int) ⊕ (Int ⊕ Int)) :=
 if (decide (x2.2.2 ≤ x2.1)) = true then
  (guardO (x2.2.2 ≠ 0)).bind fun u5 =>
  if ((Int.tmod x2.1 x2.2.2) == 0) = true then
   if ((Int.tmod (w64 (Int.tdiv x2.1 x2.2.2)) x2.2.2) == 0) = true then
    some (.inr (.inl 0))
   else
    some (.inl ((w64 (Int.tdiv x2.1 x2.2.2)), (w64 (0 - x2.2.1)), (w64 (x2.2.2 + 1))))
  else
   some (.inl (x2.1, x2.2.1, (w64 (x2.2.2 + 1))))
 else
  some (.inr (.inr x2.2.1))
noncomputable def impl_moebius (a0 : Int) : Option Int :=
 (loopO impl_moebius_b1 (a0, 1, 2)).bind fun y3 => (Sum.elim (fun p => some p) (fun p => impl_moebius_k1 p)) y3
noncomputable def impl_cycleCount_k1 (a1 : Int) (x1 : Int) : Option (Int × Bool) :=
 (guardO (a1 ≠ 0)).bind fun u2 =>
 some ((w64 (Int.tdiv x1 a1)), true)
noncomputable def impl_cycleCount_b1 (a0 : (List (List Int))) (a1 : Int) (x3 : Qr) : Option (Qr ⊕ ((Int × Bool) ⊕ Int)) :=
 if (decide (x3.2 ≤ a1)) = true then
  (guardO (x3.2 ≠ 0)).bind fun u6 =>
  if ((Int.tmod a1 x3.2) == 0) = true then
   (impl_closedWalks a0 x3.2).bind fun v8 =>
   if (!v8.2) = true then
    some (.inr (.inl (0, false)))
   else
    (impl_moebius (w64 (Int.tdiv a1 x3.2))).bind fun v10 =>
    some (.inl ((w64 (x3.1 + (w64 (v10 * v8.1)))), (w64 (x3.2 + 1))))
  else
   some (.inl (x3.1, (w64 (x3.2 + 1))))
 else
  some (.inr (.inr x3.1))
noncomputable def impl_cycleCount (a0 : (List (List Int))) (a1 : Int) : Option (Int × Bool) :=
 (loopO (impl_cycleCount_b1 a0 a1) (0, 1)).bind fun y4 => (Sum.elim (fun p => some p) (fun p => impl_cycleCount_k1 a1 p)) y4
noncomputable def impl_CycleCount (a0 : (List (List Int))) (a1 : Int) : Option (Int × Bool) :=
 (impl_isLength a0 a1).bind fun v1 =>
 if (!v1) = true then
  some (0, false)
 else
  (impl_cycleCount a0 a1).bind fun v3 =>
  some v3
noncomputable def spec_zeTimes_k1  (x1 : (List (List Int))) : Option (List (List Int)) :=
 some x1
noncomputable def spec_zeTimes_k2 (x2 : ((List (List Int)) × Int)) (x5 : (List (List Int))) : Option (((List (List Int)) × Int) ⊕ (List (List Int))) :=
 some (.inl (x5, (w64 (x2.2 + 1))))
noncomputable def spec_zeTimes_k3 (x2 : ((List (List Int)) × Int)) (x8 : (List Int)) : Option (((List (List Int)) × Int) ⊕ (List (List Int))) :=
 (guardO (x2.1.length + ([x8]).length ≤ 1099511627776)).bind fun u9 =>
 spec_zeTimes_k2 x2 (x2.1 ++ [x8])
noncomputable def spec_zeTimes_k4 (x10 : ((List Int) × Int)) (x13 : (List Int)) : Option (((List Int) × Int) ⊕ (List Int)) :=
 some (.inl (x13, (w64 (x10.2 + 1))))
noncomputable def spec_zeTimes_b3 (v14 : Int) (v15 : (List Int)) (x16 : ((List Int) × Int)) : Option (((List Int) × Int) ⊕ (List Int)) :=
 if (decide (x16.2 < (v15.length : Int))) = true then
  (idxO v15 x16.2).bind fun v19 =>
  (idxO x16.1 x16.2).bind fun v20 =>
  some (.inl ((x16.1.set (Int.toNat x16.2) (w64 (v20 + (w64 (v14 * v19))))), (w64 (x16.2 + 1))))
 else
  some (.inr x16.1)
noncomputable def spec_zeTimes_b2 (a1 : (List (List Int))) (v6 : (List Int)) (x10 : ((List Int) × Int)) : Option (((List Int) × Int) ⊕ (List Int)) :=
 if (decide (x10.2 < (v6.length : Int))) = true then
  (idxO v6 x10.2).bind fun v14 =>
  (idxO a1 x10.2).bind fun v15 =>
  (loopO (spec_zeTimes_b3 v14 v15) (x10.1, 0)).bind fun y17 => spec_zeTimes_k4 x10 y17
 else
  some (.inr x10.1)
noncomputable def spec_zeTimes_b1 (a0 : (List (List Int))) (a1 : (List (List Int))) (x2 : ((List (List Int)) × Int)) : Option (((List (List Int)) × Int) ⊕ (List (List Int))) :=
 if (decide (x2.2 < (a0.length : Int))) = true then
  (idxO a0 x2.2).bind fun v6 =>
  (guardO (0 ≤ (a1.length : Int) ∧ (a1.length : Int) ≤ 1099511627776)).bind fun u7 =>
  (loopO (spec_zeTimes_b2 a1 v6) ((List.replicate (Int.toNat (a1.length : Int)) (0 : Int)), 0)).bind fun y11 => spec_zeTimes_k3 x2 y11
 else
  some (.inr x2.1)
noncomputable def spec_zeTimes (a0 : (List (List Int))) (a1 : (List (List Int))) : Option (List (List Int)) :=
 (loopO (spec_zeTimes_b1 a0 a1) ([], 0)).bind fun y3 => spec_zeTimes_k1 y3
noncomputable def spec_zeTrace_k1  (x1 : Int) : Option Int :=
 some x1
noncomputable def spec_zeTrace_b1 (a0 : (List (List Int))) (x2 : Qr) : Option (Qr ⊕ Int) :=
 if (decide (x2.2 < (a0.length : Int))) = true then
  (idxO a0 x2.2).bind fun v5 =>
  (idxO v5 x2.2).bind fun v6 =>
  some (.inl ((w64 (x2.1 + v6)), (w64 (x2.2 + 1))))
 else
  some (.inr x2.1)
noncomputable def spec_zeTrace (a0 : (List (List Int))) : Option Int :=
 (loopO (spec_zeTrace_b1 a0) (0, 0)).bind fun y3 => spec_zeTrace_k1 y3
noncomputable def spec_zeCoefficients_k2  (x4 : (List Int)) : Option (List Int) :=
 some x4
noncomputable def spec_zeCoefficients_k3 (x5 : ((List Int) × (List (List Int)) × Int)) (x8 : ((List Int) × (List (List Int)))) : Option (((List Int) × (List (List Int)) × Int) ⊕ (List Int)) :=
 some (.inl (x8.1, x8.2, (w64 (x5.2.2 + 1))))
noncomputable def spec_zeCoefficients_b2 (a0 : (List (List Int))) (x5 : ((List Int) × (List (List Int)) × Int)) (v9 : (List (List Int))) (v10 : Int) (x13 : ((List (List Int)) × Int)) : Option (((List (List Int)) × Int) ⊕ ((List Int) × (List (List Int)))) :=
 if (decide (x13.2 < (v9.length : Int))) = true then
  (idxO x13.1 x13.2).bind fun v16 =>
  (idxO v16 x13.2).bind fun v17 =>
  (idxO (x5.1.set (Int.toNat (w64 ((a0.length : Int) - x5.2.2))) (w64 (Int.tdiv (w64 (0 - v10)) x5.2.2))) (w64 ((a0.length : Int) - x5.2.2))).bind fun v18 =>
  some (.inl ((x13.1.set (Int.toNat x13.2) (v16.set (Int.toNat x13.2) (w64 (v17 + v18)))), (w64 (x13.2 + 1))))
 else
  some (.inr ((x5.1.set (Int.toNat (w64 ((a0.length : Int) - x5.2.2))) (w64 (Int.tdiv (w64 (0 - v10)) x5.2.2))), x13.1))
noncomputable def spec_zeCoefficients_b1 (a0 : (List (List Int))) (x5 : ((List Int) × (List (List Int)) × Int)) : Option (((List Int) × (List (List Int)) × Int) ⊕ (List Int)) :=
 if (decide (x5.2.2 ≤ (a0.length : Int))) = true then
  (spec_zeTimes a0 x5.2.1).bind fun v9 =>
  (spec_zeTrace v9).bind fun v10 =>
  (guardO (x5.2.2 ≠ 0)).bind fun u11 =>
  (idxO x5.1 (w64 ((a0.length : Int) - x5.2.2))).bind fun v12 =>
  (loopO (spec_zeCoefficients_b2 a0 x5 v9 v10) (v9, 0)).bind fun y14 => spec_zeCoefficients_k3 x5 y14
 else
  some (.inr x5.1)
noncomputable def spec_zeCoefficients_k1 (a0 : (List (List Int))) (x3 : (List (List Int))) : Option (List Int) :=
 (loopO (spec_zeCoefficients_b1 a0) (((List.replicate (Int.toNat (w64 ((a0.length : Int) + 1))) (0 : Int)).set (Int.toNat (a0.length : Int)) 1), x3, 1)).bind fun y6 => spec_zeCoefficients_k2 y6
noncomputable def spec_zeCoefficients_b3 (a0 : (List (List Int))) (x19 : ((List (List Int)) × Int)) : Option (((List (List Int)) × Int) ⊕ (List (List Int))) :=
 if (decide (x19.2 < (a0.length : Int))) = true then
  (guardO (0 ≤ (a0.length : Int) ∧ (a0.length : Int) ≤ 1099511627776)).bind fun u22 =>
  (guardO (x19.1.length + ([(List.replicate (Int.toNat (a0.length : Int)) (0 : Int))]).length ≤ 1099511627776)).bind fun u23 =>
  (idxO (x19.1 ++ [(List.replicate (Int.toNat (a0.length : Int)) (0 : Int))]) x19.2).bind fun v24 =>
  (idxO v24 x19.2).bind fun v25 =>
  some (.inl (((x19.1 ++ [(List.replicate (Int.toNat (a0.length : Int)) (0 : Int))]).set (Int.toNat x19.2) (v24.set (Int.toNat x19.2) 1)), (w64 (x19.2 + 1))))
 else
  some (.inr x19.1)
noncomputable def spec_zeCoefficients (a0 : (List (List Int))) : Option (List Int) :=
 (guardO (0 ≤ (w64 ((a0.length : Int) + 1)) ∧ (w64 ((a0.length : Int) + 1)) ≤ 1099511627776)).bind fun u1 =>
 (idxO (List.replicate (Int.toNat (w64 ((a0.length : Int) + 1))) (0 : Int)) (a0.length : Int)).bind fun v2 =>
 (loopO (spec_zeCoefficients_b3 a0) ([], 0)).bind fun y20 => spec_zeCoefficients_k1 a0 y20
noncomputable def spec_l1Own (a0 : (List Int)) : Option (List Int) :=
 (guardO (a0.length ≤ 1099511627776)).bind fun u1 =>
 some a0
noncomputable def spec_poTrim_k1  (x1 : (List Int)) : Option (List Int) :=
 (spec_l1Own x1).bind fun v2 =>
 some v2
noncomputable def spec_poTrim_b1  (x3 : (List Int)) : Option ((List Int) ⊕ (List Int)) :=
 (if (decide ((x3.length : Int) > 0)) = true then
   (idxO x3 (w64 ((x3.length : Int) - 1))).bind fun v5 =>
   some (v5 == 0)
  else
   some false).bind fun w6 =>
 if w6 = true then
  (guardO (0 ≤ (w64 ((x3.length : Int) - 1)) ∧ (w64 ((x3.length : Int) - 1)) ≤ (x3.length : Int))).bind fun u8 =>
  some (.inl (x3.take (Int.toNat (w64 ((x3.length : Int) - 1)))))
 else
  some (.inr x3)
noncomputable def spec_poTrim (a0 : (List Int)) : Option (List Int) :=
 (loopO spec_poTrim_b1 a0).bind fun y4 => spec_poTrim_k1 y4
noncomputable def spec_poGood (a0 : (List Int)) : Option Bool :=
 (if (decide ((a0.length : Int) > 9)) = true then
   some true
  else
   (spec_l1All a0 (-1000000) 1000000).bind fun v1 =>
   some (!v1)).bind fun w2 =>
 if w2 = true then
  some false
 else
  (if ((a0.length : Int) == 0) = true then
    some true
   else
    (idxO a0 (w64 ((a0.length : Int) - 1))).bind fun v4 =>
    some (v4 != 0)).bind fun w5 =>
  some w5
noncomputable def spec_poIf (a0 : (List Int)) : Option ((List Int) × Bool) :=
 (spec_poTrim a0).bind fun v1 =>
 (spec_poGood v1).bind fun v2 =>
 if (!v2) = true then
  some ([], false)
 else
  some (v1, true)
noncomputable def spec_CharacteristicOf (a0 : (List (List Int))) : Option ((List Int) × Bool) :=
 (spec_grGood a0).bind fun v1 =>
 if (!v1) = true then
  some ([], false)
 else
  (spec_zeCoefficients a0).bind fun v3 =>
  (spec_poIf v3).bind fun v4 =>
  some v4
noncomputable def impl_characteristic_k1  (x4 : (List Int)) : Option (List Int) :=
 some x4
noncomputable def impl_characteristic_k2 (x5 : ((List Int) × (List (List Int)) × Int)) (x8 : ((List Int) × (List (List Int)))) : Option (((List Int) × (List (List Int)) × Int) ⊕ (List Int)) :=
 some (.inl (x8.1, x8.2, (w64 (x5.2.2 + 1))))
noncomputable def impl_characteristic_k4 (a0 : (List (List Int))) (x5 : ((List Int) × (List (List Int)) × Int)) (x11 : ((List (List Int)) × Int)) : Option (((List Int) × (List (List Int)) × Int) ⊕ (List Int)) :=
 (guardO (x5.2.2 ≠ 0)).bind fun u12 =>
 (idxO x5.1 (w64 ((a0.length : Int) - x5.2.2))).bind fun v13 =>
 impl_characteristic_k2 x5 ((x5.1.set (Int.toNat (w64 ((a0.length : Int) - x5.2.2))) (w64 (Int.tdiv (w64 (0 - x11.2)) x5.2.2))), x11.1)
noncomputable def impl_characteristic_k5 (x14 : ((List (List Int)) × Int × Int)) (x17 : ((List (List Int)) × Int)) : Option (((List (List Int)) × Int × Int) ⊕ ((List (List Int)) × Int)) :=
 some (.inl (x17.1, x17.2, (w64 (x14.2.2 + 1))))
noncomputable def impl_characteristic_k6 (x14 : ((List (List Int)) × Int × Int)) (x18 : (List (List Int))) : Option (((List (List Int)) × Int × Int) ⊕ ((List (List Int)) × Int)) :=
 (idxO x18 x14.2.2).bind fun v19 =>
 (idxO v19 x14.2.2).bind fun v20 =>
 impl_characteristic_k5 x14 (x18, (w64 (x14.2.1 + v20)))
noncomputable def impl_characteristic_k7 (x21 : ((List (List Int)) × Int)) (x24 : (List (List Int))) : Option (((List (List Int)) × Int) ⊕ (List (List Int))) :=
 some (.inl (x24, (w64 (x21.2 + 1))))
noncomputable def impl_characteristic_b4 (a0 : (List (List Int))) (x9 : (List (List Int))) (x14 : ((List (List Int)) × Int × Int)) (x21 : ((List (List Int)) × Int)) (x25 : ((List (List Int)) × Int)) : Option (((List (List Int)) × Int) ⊕ (List (List Int))) :=
 if (decide (x25.2 < (a0.length : Int))) = true then
  (idxO x25.1 x14.2.2).bind fun v28 =>
  (idxO v28 x21.2).bind fun v29 =>
  (idxO a0 x14.2.2).bind fun v30 =>
  (idxO v30 x25.2).bind fun v31 =>
  (idxO x9 x25.2).bind fun v32 =>
  (idxO v32 x21.2).bind fun v33 =>
  some (.inl ((x25.1.set (Int.toNat x14.2.2) (v28.set (Int.toNat x21.2) (w64 (v29 + (w64 (v31 * v33)))))), (w64 (x25.2 + 1))))
 else
  some (.inr x25.1)
noncomputable def impl_characteristic_b3 (a0 : (List (List Int))) (x9 : (List (List Int))) (x14 : ((List (List Int)) × Int × Int)) (x21 : ((List (List Int)) × Int)) : Option (((List (List Int)) × Int) ⊕ (List (List Int))) :=
 if (decide (x21.2 < (a0.length : Int))) = true then
  (loopO (impl_characteristic_b4 a0 x9 x14 x21) (x21.1, 0)).bind fun y26 => impl_characteristic_k7 x21 y26
 else
  some (.inr x21.1)
noncomputable def impl_characteristic_b2 (a0 : (List (List Int))) (x9 : (List (List Int))) (x14 : ((List (List Int)) × Int × Int)) : Option (((List (List Int)) × Int × Int) ⊕ ((List (List Int)) × Int)) :=
 if (decide (x14.2.2 < (a0.length : Int))) = true then
  (loopO (impl_characteristic_b3 a0 x9 x14) (x14.1, 0)).bind fun y22 => impl_characteristic_k6 x14 y22
 else
  some (.inr (x14.1, x14.2.1))
noncomputable def impl_characteristic_k3 (a0 : (List (List Int))) (x5 : ((List Int) × (List (List Int)) × Int)) (x9 : (List (List Int))) : Option (((List Int) × (List (List Int)) × Int) ⊕ (List Int)) :=
 (impl_emptyGraph (a0.length : Int)).bind fun v10 =>
 (loopO (impl_characteristic_b2 a0 x9) (v10, 0, 0)).bind fun y15 => impl_characteristic_k4 a0 x5 y15
noncomputable def impl_characteristic_b5 (a0 : (List (List Int))) (x5 : ((List Int) × (List (List Int)) × Int)) (x34 : ((List (List Int)) × Int)) : Option (((List (List Int)) × Int) ⊕ (List (List Int))) :=
 if (decide (x34.2 < (x5.2.1.length : Int))) = true then
  (idxO x34.1 x34.2).bind fun v37 =>
  (idxO v37 x34.2).bind fun v38 =>
  (idxO x5.1 (w64 ((w64 ((a0.length : Int) - x5.2.2)) + 1))).bind fun v39 =>
  some (.inl ((x34.1.set (Int.toNat x34.2) (v37.set (Int.toNat x34.2) (w64 (v38 + v39)))), (w64 (x34.2 + 1))))
 else
  some (.inr x34.1)
noncomputable def impl_characteristic_b1 (a0 : (List (List Int))) (x5 : ((List Int) × (List (List Int)) × Int)) : Option (((List Int) × (List (List Int)) × Int) ⊕ (List Int)) :=
 if (decide (x5.2.2 ≤ (a0.length : Int))) = true then
  (loopO (impl_characteristic_b5 a0 x5) (x5.2.1, 0)).bind fun y35 => impl_characteristic_k3 a0 x5 y35
 else
  some (.inr x5.1)
noncomputable def impl_characteristic (a0 : (List (List Int))) : Option (List Int) :=
 (guardO (0 ≤ (w64 ((a0.length : Int) + 1)) ∧ (w64 ((a0.length : Int) + 1)) ≤ 1099511627776)).bind fun u1 =>
 (idxO (List.replicate (Int.toNat (w64 ((a0.length : Int) + 1))) (0 : Int)) (a0.length : Int)).bind fun v2 =>
 (impl_emptyGraph (a0.length : Int)).bind fun v3 =>
 (loopO (impl_characteristic_b1 a0) (((List.replicate (Int.toNat (w64 ((a0.length : Int) + 1))) (0 : Int)).set (Int.toNat (a0.length : Int)) 1), v3, 1)).bind fun y6 => impl_characteristic_k1 y6
noncomputable def impl_isPolynomial_1 (a0 : Int) : Option Bool :=
 (impl_within a0 (-1000000) 1000000).bind fun v1 =>
 some (!v1)
noncomputable def impl_isPolynomial (a0 : (List Int)) : Option Bool :=
 (if (decide ((a0.length : Int) ≤ 9)) = true then
   (slices_ContainsFunc_Lint_int a0 (fun x0 => impl_isPolynomial_1 x0)).bind fun v1 =>
   if (!v1) = true then
    if ((a0.length : Int) == 0) = true then
     some true
    else
     (idxO a0 (w64 ((a0.length : Int) - 1))).bind fun v2 =>
     some (v2 != 0)
   else
    some false
  else
   some false).bind fun w3 =>
 some w3
noncomputable def slices_Clone_Lint_int (a0 : (List Int)) : Option (List Int) :=
 (guardO (a0.length ≤ 1099511627776)).bind fun u2 =>
 some a0
noncomputable def impl_polynomial_k1  (x1 : (List Int)) : Option ((List Int) × Bool) :=
 (impl_isPolynomial x1).bind fun v2 =>
 if (!v2) = true then
  some ([], false)
 else
  (slices_Clone_Lint_int x1).bind fun v4 =>
  some (v4, true)
noncomputable def impl_polynomial_b1  (x5 : (List Int)) : Option ((List Int) ⊕ (List Int)) :=
 (if (decide ((x5.length : Int) > 0)) = true then
   (idxO x5 (w64 ((x5.length : Int) - 1))).bind fun v7 =>
   some (v7 == 0)
  else
   some false).bind fun w8 =>
 if w8 = true then
  (guardO (0 ≤ (w64 ((x5.length : Int) - 1)) ∧ (w64 ((x5.length : Int) - 1)) ≤ (x5.length : Int))).bind fun u10 =>
  some (.inl (x5.take (Int.toNat (w64 ((x5.length : Int) - 1)))))
 else
  some (.inr x5)
noncomputable def impl_polynomial (a0 : (List Int)) : Option ((List Int) × Bool) :=
 (loopO impl_polynomial_b1 a0).bind fun y6 => impl_polynomial_k1 y6
noncomputable def impl_CharacteristicOf (a0 : (List (List Int))) : Option ((List Int) × Bool) :=
 (impl_isGraph a0).bind fun v1 =>
 if (!v1) = true then
  some ([], false)
 else
  (impl_characteristic a0).bind fun v3 =>
  (impl_polynomial v3).bind fun v4 =>
  some v4
noncomputable def spec_zeBack_k1  (x1 : (List Int)) : Option (List Int) :=
 some x1
noncomputable def spec_zeBack_b1 (a0 : (List Int)) (x2 : ((List Int) × Int)) : Option (((List Int) × Int) ⊕ (List Int)) :=
 if (decide (x2.2 ≥ 0)) = true then
  (idxO a0 x2.2).bind fun v5 =>
  (guardO (x2.1.length + ([v5]).length ≤ 1099511627776)).bind fun u6 =>
  some (.inl ((x2.1 ++ [v5]), (w64 (x2.2 - 1))))
 else
  some (.inr x2.1)
noncomputable def spec_zeBack (a0 : (List Int)) : Option (List Int) :=
 (loopO (spec_zeBack_b1 a0) ([], (w64 ((a0.length : Int) - 1)))).bind fun y3 => spec_zeBack_k1 y3
noncomputable def spec_ZetaDenominator (a0 : (List (List Int))) : Option ((List Int) × Bool) :=
 (spec_grGood a0).bind fun v1 =>
 if (!v1) = true then
  some ([], false)
 else
  (spec_zeCoefficients a0).bind fun v3 =>
  (spec_zeBack v3).bind fun v4 =>
  (spec_poIf v4).bind fun v5 =>
  some v5
noncomputable def slices_Reverse_Lint_int_b1  (x1 : Cu) : Option (Cu ⊕ (List Int)) :=
 if (decide (x1.2.1 < x1.2.2)) = true then
  (idxO x1.1 x1.2.1).bind fun v4 =>
  (idxO x1.1 x1.2.2).bind fun v5 =>
  (guardO (x1.2.1 ≠ x1.2.2)).bind fun u6 =>
  some (.inl (((x1.1.set (Int.toNat x1.2.1) v5).set (Int.toNat x1.2.2) v4), (w64 (x1.2.1 + 1)), (w64 (x1.2.2 - 1))))
 else
  some (.inr x1.1)
noncomputable def slices_Reverse_Lint_int (a0 : (List Int)) : Option (List Int) :=
 (loopO slices_Reverse_Lint_int_b1 (a0, 0, (w64 ((a0.length : Int) - 1)))).bind fun y2 => some y2
noncomputable def impl_ZetaDenominator (a0 : (List (List Int))) : Option ((List Int) × Bool) :=
 (impl_isGraph a0).bind fun v1 =>
 if (!v1) = true then
  some ([], false)
 else
  (impl_characteristic a0).bind fun v3 =>
  (slices_Reverse_Lint_int v3).bind fun v4 =>
  (impl_polynomial v4).bind fun v5 =>
  some v5
noncomputable def spec_CycleTable_k1  (x5 : (List Int)) : Option ((List Int) × Bool) :=
 some (x5, true)
noncomputable def spec_CycleTable_b1 (a0 : (List (List Int))) (a1 : Int) (x6 : ((List Int) × Int)) : Option (((List Int) × Int) ⊕ (((List Int) × Bool) ⊕ (List Int))) :=
 if (decide (x6.2 ≤ a1)) = true then
  (spec_zeCycles a0 x6.2).bind fun v9 =>
  if (decide (v9 < 0)) = true then
   some (.inr (.inl ([], false)))
  else
   (guardO (x6.1.length + ([v9]).length ≤ 1099511627776)).bind fun u11 =>
   some (.inl ((x6.1 ++ [v9]), (w64 (x6.2 + 1))))
 else
  some (.inr (.inr x6.1))
noncomputable def spec_CycleTable (a0 : (List (List Int))) (a1 : Int) : Option ((List Int) × Bool) :=
 (spec_grGood a0).bind fun v1 =>
 (if (!v1) = true then
   some true
  else
   (spec_zeLength a1).bind fun v2 =>
   some (!v2)).bind fun w3 =>
 if w3 = true then
  some ([], false)
 else
  (loopO (spec_CycleTable_b1 a0 a1) ([], 1)).bind fun y7 => (Sum.elim (fun p => some p) (fun p => spec_CycleTable_k1 p)) y7
noncomputable def impl_CycleTable_k1  (x3 : (List Int)) : Option ((List Int) × Bool) :=
 some (x3, true)
noncomputable def impl_CycleTable_b1 (a0 : (List (List Int))) (a1 : Int) (x4 : ((List Int) × Int)) : Option (((List Int) × Int) ⊕ (((List Int) × Bool) ⊕ (List Int))) :=
 if (decide (x4.2 ≤ a1)) = true then
  (impl_cycleCount a0 x4.2).bind fun v7 =>
  if (!v7.2) = true then
   some (.inr (.inl ([], false)))
  else
   (guardO (x4.1.length + ([v7.1]).length ≤ 1099511627776)).bind fun u9 =>
   some (.inl ((x4.1 ++ [v7.1]), (w64 (x4.2 + 1))))
 else
  some (.inr (.inr x4.1))
noncomputable def impl_CycleTable (a0 : (List (List Int))) (a1 : Int) : Option ((List Int) × Bool) :=
 (impl_isLength a0 a1).bind fun v1 =>
 if (!v1) = true then
  some ([], false)
 else
  (loopO (impl_CycleTable_b1 a0 a1) ([], 1)).bind fun y5 => (Sum.elim (fun p => some p) (fun p => impl_CycleTable_k1 p)) y5
noncomputable def spec_l1Cur_next_k1 (a0 : Cu) (x1 : Int) : Option (Int × Cu) :=
 if (decide ((w64 (a0.2.1 + 1)) ≤ (a0.1.length : Int))) = true then
  some (x1, (a0.1, (w64 (a0.2.1 + 1)), (IntKind.wrap .u64 ((IntKind.wrap .u64 ((IntKind.wrap .u64 (a0.2.2 * 6364136223846793005)) + (IntKind.wrap .u64 x1))) + 1442695040888963407))))
 else
  some ((IntKind.wrap .i64 (iand .u64 (ishr .u64 (IntKind.wrap .u64 ((IntKind.wrap .u64 ((IntKind.wrap .u64 (a0.2.2 * 6364136223846793005)) + (IntKind.wrap .u64 x1))) + 1442695040888963407)) 40) 255)), (a0.1, (w64 (a0.2.1 + 1)), (IntKind.wrap .u64 ((IntKind.wrap .u64 ((IntKind.wrap .u64 (a0.2.2 * 6364136223846793005)) + (IntKind.wrap .u64 x1))) + 1442695040888963407))))
noncomputable def spec_l1Cur_next (a0 : Cu) : Option (Int × Cu) :=
 if (decide (a0.2.1 < (a0.1.length : Int))) = true then
  (idxO a0.1 a0.2.1).bind fun v4 =>
  spec_l1Cur_next_k1 a0 (IntKind.wrap .i64 v4)
 else
  spec_l1Cur_next_k1 a0 0
noncomputable def spec_l1Cur_pick_k1 (a1 : Int) (x3 : ((List Int) × Int × Int × Int)) : Option (Int × Cu) :=
 (guardO (a1 ≠ 0)).bind fun u4 =>
 some ((Int.tmod x3.2.2.2 a1), (x3.1, x3.2.1, x3.2.2.1))
noncomputable def spec_l1Cur_pick (a0 : Cu) (a1 : Int) : Option (Int × Cu) :=
 if (decide (a1 ≤ 1)) = true then
  some (0, a0)
 else
  (spec_l1Cur_next a0).bind fun v2 =>
  if (decide (a1 > 200)) = true then
   (spec_l1Cur_next v2.2).bind fun v6 =>
   spec_l1Cur_pick_k1 a1 (v6.2.1, v6.2.2.1, v6.2.2.2, (w64 ((w64 (v2.1 * 256)) + v6.1)))
  else
   spec_l1Cur_pick_k1 a1 (v2.2.1, v2.2.2.1, v2.2.2.2, v2.1)
noncomputable def spec_l1Cur_one (a0 : Cu) (a1 : Int) : Option (Bool × Cu) :=
 (spec_l1Cur_pick a0 a1).bind fun v1 =>
 some ((v1.1 == 0), v1.2)
noncomputable def spec_l1Cur_among (a0 : Cu) (a1 : (List Int)) : Option (Int × Cu) :=
 (spec_l1Cur_pick a0 (a1.length : Int)).bind fun v1 =>
 (idxO a1 v1.1).bind fun v2 =>
 some (v2, v1.2)
noncomputable def laws_big (a0 : (List Int)) (a1 : (List Int)) : Option Bool :=
 some ((decide ((a0.length : Int) > 1048576)) || (decide ((a1.length : Int) > (w64 (1048576 - (a0.length : Int))))))
noncomputable def laws_sameInts_k1  (x2 : Unit) : Option Bool :=
 some true
noncomputable def laws_sameInts_b1 (a0 : (List Int)) (a1 : (List Int)) (x3 : Int) : Option (Int ⊕ (Bool ⊕ Unit)) :=
 if (decide (x3 < (a0.length : Int))) = true then
  (idxO a0 x3).bind fun v6 =>
  (idxO a1 x3).bind fun v7 =>
  if (v6 != v7) = true then
   some (.inr (.inl false))
  else
   some (.inl (w64 (x3 + 1)))
 else
  some (.inr (.inr ()))
noncomputable def laws_sameInts (a0 : (List Int)) (a1 : (List Int)) : Option Bool :=
 if ((a0.length : Int) != (a1.length : Int)) = true then
  some false
 else
  (loopO (laws_sameInts_b1 a0 a1) 0).bind fun y4 => (Sum.elim (fun p => some p) (fun p => laws_sameInts_k1 p)) y4
noncomputable def spec_l1Cur_graph_k4  (x6 : ((List Int) × Int × Int × (List (List Int)))) : Option ((List (List Int)) × Cu) :=
 some (x6.2.2.2, (x6.1, x6.2.1, x6.2.2.1))
noncomputable def spec_l1Cur_graph_k5 (x9 : ((List (List Int)) × Int)) (x12 : (List (List Int))) : Option (((List (List Int)) × Int) ⊕ ((List Int) × Int × Int × (List (List Int)))) :=
 some (.inl (x12, (w64 (x9.2 + 1))))
noncomputable def spec_l1Cur_graph_b2 (x9 : ((List (List Int)) × Int)) (v13 : (List Int)) (x14 : ((List (List Int)) × Int)) : Option (((List (List Int)) × Int) ⊕ (List (List Int))) :=
 if (decide (x14.2 < (v13.length : Int))) = true then
  (idxO x14.1 x9.2).bind fun v17 =>
  (idxO v17 x14.2).bind fun v18 =>
  some (.inl ((x14.1.set (Int.toNat x9.2) (v17.set (Int.toNat x14.2) 9)), (w64 (x14.2 + 1))))
 else
  some (.inr x14.1)
noncomputable def spec_l1Cur_graph_b1 (x5 : ((List Int) × Int × Int × (List (List Int)))) (v7 : (Bool × Cu)) (x9 : ((List (List Int)) × Int)) : Option (((List (List Int)) × Int) ⊕ ((List Int) × Int × Int × (List (List Int)))) :=
 if (decide (x9.2 < (x5.2.2.2.length : Int))) = true then
  (idxO x9.1 x9.2).bind fun v13 =>
  (loopO (spec_l1Cur_graph_b2 x9 v13) (x9.1, 0)).bind fun y15 => spec_l1Cur_graph_k5 x9 y15
 else
  some (.inr (v7.2.1, v7.2.2.1, v7.2.2.2, x9.1))
noncomputable def spec_l1Cur_graph_k3  (x5 : ((List Int) × Int × Int × (List (List Int)))) : Option ((List (List Int)) × Cu) :=
 (spec_l1Cur_one (x5.1, x5.2.1, x5.2.2.1) 16).bind fun v7 =>
 if v7.1 = true then
  (loopO (spec_l1Cur_graph_b1 x5 v7) (x5.2.2.2, 0)).bind fun y10 => spec_l1Cur_graph_k4 y10
 else
  spec_l1Cur_graph_k4 (v7.2.1, v7.2.2.1, v7.2.2.2, x5.2.2.2)
noncomputable def spec_l1Cur_graph_k2 (x2 : ((List Int) × Int × Int × Int)) (x4 : ((List Int) × Int × Int × (List (List Int)))) : Option ((List (List Int)) × Cu) :=
 (spec_l1Cur_one (x4.1, x4.2.1, x4.2.2.1) 12).bind fun v19 =>
 if v19.1 = true then
  (spec_l1Cur_pick v19.2 x2.2.2.2).bind fun v21 =>
  (idxO x4.2.2.2 v21.1).bind fun v22 =>
  (spec_l1Cur_pick v21.2 x2.2.2.2).bind fun v23 =>
  (spec_l1Cur_among v23.2 ([3, 9])).bind fun v24 =>
  (idxO v22 v23.1).bind fun v25 =>
  spec_l1Cur_graph_k3 (v24.2.1, v24.2.2.1, v24.2.2.2, (x4.2.2.2.set (Int.toNat v21.1) (v22.set (Int.toNat v23.1) v24.1)))
 else
  spec_l1Cur_graph_k3 (v19.2.1, v19.2.2.1, v19.2.2.2, x4.2.2.2)
noncomputable def spec_l1Cur_graph_k6 (x26 : ((List Int) × Int × Int × (List (List Int)) × Int)) (x29 : ((List Int) × Int × Int × (List (List Int)))) : Option (((List Int) × Int × Int × (List (List Int)) × Int) ⊕ ((List Int) × Int × Int × (List (List Int)))) :=
 some (.inl (x29.1, x29.2.1, x29.2.2.1, x29.2.2.2, (w64 (x26.2.2.2.2 + 1))))
noncomputable def spec_l1Cur_graph_k7 (x26 : ((List Int) × Int × Int × (List (List Int)) × Int)) (x30 : ((List Int) × Int × Int × (List Int))) : Option (((List Int) × Int × Int × (List (List Int)) × Int) ⊕ ((List Int) × Int × Int × (List (List Int)))) :=
 (guardO (x26.2.2.2.1.length + ([x30.2.2.2]).length ≤ 1099511627776)).bind fun u31 =>
 spec_l1Cur_graph_k6 x26 (x30.1, x30.2.1, x30.2.2.1, (x26.2.2.2.1 ++ [x30.2.2.2]))
noncomputable def spec_l1Cur_graph_k8 (x32 : ((List Int) × Int × Int × (List Int) × Int)) (x35 : ((List Int) × Int × Int × Int)) : Option (((List Int) × Int × Int × (List Int) × Int) ⊕ ((List Int) × Int × Int × (List Int))) :=
 (guardO (x32.2.2.2.1.length + ([x35.2.2.2]).length ≤ 1099511627776)).bind fun u36 =>
 some (.inl (x35.1, x35.2.1, x35.2.2.1, (x32.2.2.2.1 ++ [x35.2.2.2]), (w64 (x32.2.2.2.2 + 1))))
noncomputable def spec_l1Cur_graph_b4 (x2 : ((List Int) × Int × Int × Int)) (v3 : (Int × Cu)) (x26 : ((List Int) × Int × Int × (List (List Int)) × Int)) (x32 : ((List Int) × Int × Int × (List Int) × Int)) : Option (((List Int) × Int × Int × (List Int) × Int) ⊕ ((List Int) × Int × Int × (List Int))) :=
 if (decide (x32.2.2.2.2 < x2.2.2.2)) = true then
  (spec_l1Cur_one (x32.1, x32.2.1, x32.2.2.1) v3.1).bind fun v37 =>
  (if v37.1 = true then
    some true
   else
    if (v3.1 == 2) = true then
     (guardO (x2.2.2.2 ≠ 0)).bind fun u38 =>
     some (x32.2.2.2.2 == (Int.tmod (w64 (x26.2.2.2.2 + 1)) x2.2.2.2))
    else
     some false).bind fun w39 =>
  if w39 = true then
   (spec_l1Cur_among v37.2 ([1, 1, 1, 2])).bind fun v41 =>
   spec_l1Cur_graph_k8 x32 (v41.2.1, v41.2.2.1, v41.2.2.2, v41.1)
  else
   spec_l1Cur_graph_k8 x32 (v37.2.1, v37.2.2.1, v37.2.2.2, 0)
 else
  some (.inr (x32.1, x32.2.1, x32.2.2.1, x32.2.2.2.1))
noncomputable def spec_l1Cur_graph_b3 (x2 : ((List Int) × Int × Int × Int)) (v3 : (Int × Cu)) (x26 : ((List Int) × Int × Int × (List (List Int)) × Int)) : Option (((List Int) × Int × Int × (List (List Int)) × Int) ⊕ ((List Int) × Int × Int × (List (List Int)))) :=
 if (decide (x26.2.2.2.2 < x2.2.2.2)) = true then
  (loopO (spec_l1Cur_graph_b4 x2 v3 x26) (x26.1, x26.2.1, x26.2.2.1, [], 0)).bind fun y33 => spec_l1Cur_graph_k7 x26 y33
 else
  some (.inr (x26.1, x26.2.1, x26.2.2.1, x26.2.2.2.1))
noncomputable def spec_l1Cur_graph_k1  (x2 : ((List Int) × Int × Int × Int)) : Option ((List (List Int)) × Cu) :=
 (spec_l1Cur_among (x2.1, x2.2.1, x2.2.2.1) ([2, 2, 3])).bind fun v3 =>
 (loopO (spec_l1Cur_graph_b3 x2 v3) (v3.2.1, v3.2.2.1, v3.2.2.2, [], 0)).bind fun y27 => spec_l1Cur_graph_k2 x2 y27
noncomputable def spec_l1Cur_graph (a0 : Cu) : Option ((List (List Int)) × Cu) :=
 (spec_l1Cur_pick a0 4).bind fun v1 =>
 (spec_l1Cur_one v1.2 12).bind fun v42 =>
 if v42.1 = true then
  (spec_l1Cur_among v42.2 ([5, 6, 7, 8])).bind fun v44 =>
  spec_l1Cur_graph_k1 (v44.2.1, v44.2.2.1, v44.2.2.2, v44.1)
 else
  spec_l1Cur_graph_k1 (v42.2.1, v42.2.2.1, v42.2.2.2, (w64 (1 + v1.1)))
noncomputable def spec_l1Cur_anyGraph_k1  (x2 : ((List Int) × Int × Int × (List (List Int)))) : Option ((List (List Int)) × Cu) :=
 some (x2.2.2.2, (x2.1, x2.2.1, x2.2.2.1))
noncomputable def spec_l1Cur_anyGraph_b1 (v3 : (Int × Cu)) (x14 : (List (List Int))) : Option ((List (List Int)) ⊕ ((List Int) × Int × Int × (List (List Int)))) :=
 if (decide ((x14.length : Int) < 9)) = true then
  (guardO (0 ≤ (9 : Int) ∧ (9 : Int) ≤ 1099511627776)).bind fun u17 =>
  (guardO (x14.length + ([(List.replicate (Int.toNat (9 : Int)) (0 : Int))]).length ≤ 1099511627776)).bind fun u18 =>
  some (.inl (x14 ++ [(List.replicate (Int.toNat (9 : Int)) (0 : Int))]))
 else
  some (.inr (v3.2.1, v3.2.2.1, v3.2.2.2, x14))
noncomputable def spec_l1Cur_anyGraph (a0 : Cu) : Option ((List (List Int)) × Cu) :=
 (spec_l1Cur_graph a0).bind fun v1 =>
 (spec_l1Cur_pick v1.2 30).bind fun v3 =>
 if (v3.1 == 0) = true then
  (idxO v1.1 0).bind fun v5 =>
  (spec_l1Cur_pick v3.2 (v1.1.length : Int)).bind fun v6 =>
  (spec_l1Cur_among v6.2 ([(-1), 10])).bind fun v7 =>
  (idxO v5 v6.1).bind fun v8 =>
  spec_l1Cur_anyGraph_k1 (v7.2.1, v7.2.2.1, v7.2.2.2, (v1.1.set (Int.toNat 0) (v5.set (Int.toNat v6.1) v7.1)))
 else
  if (v3.1 == 1) = true then
   (idxO v1.1 0).bind fun v10 =>
   (guardO (v10.length + ([1]).length ≤ 1099511627776)).bind fun u11 =>
   spec_l1Cur_anyGraph_k1 (v3.2.1, v3.2.2.1, v3.2.2.2, (v1.1.set (Int.toNat 0) (v10 ++ [1])))
  else
   if (v3.1 == 2) = true then
    some ([], v3.2)
   else
    if (v3.1 == 3) = true then
     (loopO (spec_l1Cur_anyGraph_b1 v3) ([])).bind fun y15 => spec_l1Cur_anyGraph_k1 y15
    else
     spec_l1Cur_anyGraph_k1 (v3.2.1, v3.2.2.1, v3.2.2.2, v1.1)
noncomputable def spec_DrawIsGraph (a0 : (List Int)) : Option (List (List Int)) :=
 (spec_l1Cur_anyGraph (a0, 0, 0)).bind fun v1 =>
 some v1.1
noncomputable def spec_DrawCharacteristicOf (a0 : (List Int)) : Option (List (List Int)) :=
 (spec_DrawIsGraph a0).bind fun v1 =>
 some v1
noncomputable def impl_DeterminantOf (a0 : (List (List Int))) : Option (Int × Bool) :=
 (impl_isGraph a0).bind fun v1 =>
 if (!v1) = true then
  some (0, false)
 else
  (impl_characteristic a0).bind fun v3 =>
  (idxO v3 0).bind fun v4 =>
  if ((Int.tmod (a0.length : Int) 2) == 1) = true then
   some ((w64 (0 - v4)), true)
  else
   some (v4, true)
noncomputable def spec_DeterminantOf (a0 : (List (List Int))) : Option (Int × Bool) :=
 (spec_grGood a0).bind fun v1 =>
 if (!v1) = true then
  some (0, false)
 else
  (spec_zeCoefficients a0).bind fun v3 =>
  (idxO v3 0).bind fun v4 =>
  if ((Int.tmod (a0.length : Int) 2) == 1) = true then
   some ((w64 (0 - v4)), true)
  else
   some (v4, true)
noncomputable def impl_TraceOf (a0 : (List (List Int))) : Option (Int × Bool) :=
 (impl_isGraph a0).bind fun v1 =>
 if (!v1) = true then
  some (0, false)
 else
  (impl_closedWalks a0 1).bind fun v3 =>
  some v3
noncomputable def spec_TraceOf (a0 : (List (List Int))) : Option (Int × Bool) :=
 (spec_grGood a0).bind fun v1 =>
 if (!v1) = true then
  some (0, false)
 else
  (spec_zeTrace a0).bind fun v3 =>
  some (v3, true)
noncomputable def impl_isMonic (a0 : (List Int)) : Option Bool :=
 (if (decide ((a0.length : Int) > 0)) = true then
   (idxO a0 (w64 ((a0.length : Int) - 1))).bind fun v1 =>
   some (v1 == 1)
  else
   some false).bind fun w2 =>
 some w2
noncomputable def impl_PowerSums_k1  (x6 : (List Int)) : Option ((List Int) × Bool) :=
 some (x6, true)
noncomputable def impl_PowerSums_k2 (x7 : ((List Int) × Int)) (x10 : (List Int)) : Option (((List Int) × Int) ⊕ (((List Int) × Bool) ⊕ (List Int))) :=
 some (.inl (x10, (w64 (x7.2 + 1))))
noncomputable def impl_PowerSums_k4 (x7 : ((List Int) × Int)) (x12 : Int) : Option (((List Int) × Int) ⊕ (((List Int) × Bool) ⊕ (List Int))) :=
 (impl_within x12 (-1000000000) 1000000000).bind fun v13 =>
 if (!v13) = true then
  some (.inr (.inl ([], false)))
 else
  (guardO (x7.1.length + ([x12]).length ≤ 1099511627776)).bind fun u15 =>
  impl_PowerSums_k2 x7 (x7.1 ++ [x12])
noncomputable def impl_PowerSums_k3 (a0 : (List Int)) (x7 : ((List Int) × Int)) (x11 : Int) : Option (((List Int) × Int) ⊕ (((List Int) × Bool) ⊕ (List Int))) :=
 if (decide (x7.2 ≤ (w64 ((a0.length : Int) - 1)))) = true then
  (idxO a0 (w64 ((w64 ((a0.length : Int) - 1)) - x7.2))).bind fun v17 =>
  impl_PowerSums_k4 x7 (w64 (x11 - (w64 (x7.2 * v17))))
 else
  impl_PowerSums_k4 x7 x11
noncomputable def impl_PowerSums_b2 (a0 : (List Int)) (x7 : ((List Int) × Int)) (x18 : Qr) : Option (Qr ⊕ Int) :=
 if ((decide (x18.2 < x7.2)) && (decide (x18.2 ≤ (w64 ((a0.length : Int) - 1))))) = true then
  (idxO a0 (w64 ((w64 ((a0.length : Int) - 1)) - x18.2))).bind fun v21 =>
  (idxO x7.1 (w64 ((w64 (x7.2 - x18.2)) - 1))).bind fun v22 =>
  some (.inl ((w64 (x18.1 - (w64 (v21 * v22)))), (w64 (x18.2 + 1))))
 else
  some (.inr x18.1)
noncomputable def impl_PowerSums_b1 (a0 : (List Int)) (a1 : Int) (x7 : ((List Int) × Int)) : Option (((List Int) × Int) ⊕ (((List Int) × Bool) ⊕ (List Int))) :=
 if (decide (x7.2 ≤ a1)) = true then
  (loopO (impl_PowerSums_b2 a0 x7) (0, 1)).bind fun y19 => impl_PowerSums_k3 a0 x7 y19
 else
  some (.inr (.inr x7.1))
noncomputable def impl_PowerSums (a0 : (List Int)) (a1 : Int) : Option ((List Int) × Bool) :=
 (impl_isPolynomial a0).bind fun v1 =>
 (if (!v1) = true then
   some true
  else
   (impl_isMonic a0).bind fun v2 =>
   if (!v2) = true then
    some true
   else
    if (decide ((w64 ((a0.length : Int) - 1)) < 1)) = true then
     some true
    else
     (impl_within a1 1 12).bind fun v3 =>
     some (!v3)).bind fun w4 =>
 if w4 = true then
  some ([], false)
 else
  (loopO (impl_PowerSums_b1 a0 a1) ([], 1)).bind fun y8 => (Sum.elim (fun p => some p) (fun p => impl_PowerSums_k1 p)) y8
noncomputable def spec_poMonic (a0 : (List Int)) : Option Bool :=
 (if (decide ((a0.length : Int) > 0)) = true then
   (idxO a0 (w64 ((a0.length : Int) - 1))).bind fun v1 =>
   some (v1 == 1)
  else
   some false).bind fun w2 =>
 some w2
noncomputable def spec_PowerSums_k1  (x6 : (List Int)) : Option ((List Int) × Bool) :=
 some (x6, true)
noncomputable def spec_PowerSums_k2 (x7 : ((List Int) × Int)) (x10 : (List Int)) : Option (((List Int) × Int) ⊕ (((List Int) × Bool) ⊕ (List Int))) :=
 some (.inl (x10, (w64 (x7.2 + 1))))
noncomputable def spec_PowerSums_k4 (x7 : ((List Int) × Int)) (x12 : Int) : Option (((List Int) × Int) ⊕ (((List Int) × Bool) ⊕ (List Int))) :=
 (spec_l1In x12 (-1000000000) 1000000000).bind fun v13 =>
 if (!v13) = true then
  some (.inr (.inl ([], false)))
 else
  (guardO (x7.1.length + ([x12]).length ≤ 1099511627776)).bind fun u15 =>
  spec_PowerSums_k2 x7 (x7.1 ++ [x12])
noncomputable def spec_PowerSums_k3 (a0 : (List Int)) (x7 : ((List Int) × Int)) (x11 : Int) : Option (((List Int) × Int) ⊕ (((List Int) × Bool) ⊕ (List Int))) :=
 if (decide (x7.2 ≤ (w64 ((a0.length : Int) - 1)))) = true then
  (idxO a0 (w64 ((w64 ((a0.length : Int) - 1)) - x7.2))).bind fun v17 =>
  spec_PowerSums_k4 x7 (w64 (x11 - (w64 (x7.2 * v17))))
 else
  spec_PowerSums_k4 x7 x11
noncomputable def spec_PowerSums_b2 (a0 : (List Int)) (x7 : ((List Int) × Int)) (x18 : Qr) : Option (Qr ⊕ Int) :=
 if ((decide (x18.2 < x7.2)) && (decide (x18.2 ≤ (w64 ((a0.length : Int) - 1))))) = true then
  (idxO a0 (w64 ((w64 ((a0.length : Int) - 1)) - x18.2))).bind fun v21 =>
  (idxO x7.1 (w64 ((w64 (x7.2 - 1)) - x18.2))).bind fun v22 =>
  some (.inl ((w64 (x18.1 - (w64 (v21 * v22)))), (w64 (x18.2 + 1))))
 else
  some (.inr x18.1)
noncomputable def spec_PowerSums_b1 (a0 : (List Int)) (a1 : Int) (x7 : ((List Int) × Int)) : Option (((List Int) × Int) ⊕ (((List Int) × Bool) ⊕ (List Int))) :=
 if (decide (x7.2 ≤ a1)) = true then
  (loopO (spec_PowerSums_b2 a0 x7) (0, 1)).bind fun y19 => spec_PowerSums_k3 a0 x7 y19
 else
  some (.inr (.inr x7.1))
noncomputable def spec_PowerSums (a0 : (List Int)) (a1 : Int) : Option ((List Int) × Bool) :=
 (spec_poGood a0).bind fun v1 =>
 (if (!v1) = true then
   some true
  else
   (spec_poMonic a0).bind fun v2 =>
   if (!v2) = true then
    some true
   else
    if (decide ((a0.length : Int) < 2)) = true then
     some true
    else
     (spec_zeLength a1).bind fun v3 =>
     some (!v3)).bind fun w4 =>
 if w4 = true then
  some ([], false)
 else
  (loopO (spec_PowerSums_b1 a0 a1) ([], 1)).bind fun y8 => (Sum.elim (fun p => some p) (fun p => spec_PowerSums_k1 p)) y8
noncomputable def impl_ClosedWalks (a0 : (List (List Int))) (a1 : Int) : Option (Int × Bool) :=
 (impl_isWalk a0 a1).bind fun v1 =>
 if (!v1) = true then
  some (0, false)
 else
  (impl_closedWalks a0 a1).bind fun v3 =>
  some v3
noncomputable def spec_ClosedWalks (a0 : (List (List Int))) (a1 : Int) : Option (Int × Bool) :=
 (spec_grGood a0).bind fun v1 =>
 (if (!v1) = true then
   some true
  else
   (spec_grSteps a1).bind fun v2 =>
   if (!v2) = true then
    some true
   else
    (spec_grClosed a0 a1).bind fun v3 =>
    some (decide (v3 > 1000000000))).bind fun w4 =>
 if w4 = true then
  some (0, false)
 else
  (spec_grClosed a0 a1).bind fun v6 =>
  some (v6, true)
noncomputable def spec_DrawCycleCount (a0 : (List Int)) : Option ((List (List Int)) × Int) :=
 (spec_l1Cur_anyGraph (a0, 0, 0)).bind fun v1 =>
 (spec_l1Cur_among v1.2 ([0, 13])).bind fun v2 =>
 (spec_l1Cur_among v2.2 ([1, 2, 3, 4, 6, 12, v2.1])).bind fun v3 =>
 some (v1.1, v3.1)
noncomputable def spec_DrawCycleTable (a0 : (List Int)) : Option ((List (List Int)) × Int) :=
 (spec_DrawCycleCount a0).bind fun v1 =>
 some v1
noncomputable def impl_EulerProduct_1 (a0 : Int) : Option Bool :=
 (impl_within a0 0 100).bind fun v1 =>
 some (!v1)
noncomputable def impl_EulerProduct_2 (a0 : Int) : Option Bool :=
 (impl_within a0 (-1000000) 1000000).bind fun v1 =>
 some (!v1)
noncomputable def impl_EulerProduct_k1  (x7 : (List Int)) : Option ((List Int) × Bool) :=
 (slices_ContainsFunc_Lint_int x7 (fun x0 => impl_EulerProduct_2 x0)).bind fun v8 =>
 if v8 = true then
  some ([], false)
 else
  some (x7, true)
noncomputable def impl_EulerProduct_k2 (x10 : ((List Int) × Int)) (x13 : (List Int)) : Option (((List Int) × Int) ⊕ (List Int)) :=
 some (.inl (x13, (w64 (x10.2 + 1))))
noncomputable def impl_EulerProduct_k3 (x15 : ((List Int) × Int)) (x18 : (List Int)) : Option (((List Int) × Int) ⊕ (List Int)) :=
 some (.inl (x18, (w64 (x15.2 + 1))))
noncomputable def impl_EulerProduct_b3 (x10 : ((List Int) × Int)) (x19 : ((List Int) × Int)) : Option (((List Int) × Int) ⊕ (List Int)) :=
 if (decide (x19.2 > x10.2)) = true then
  (idxO x19.1 x19.2).bind fun v22 =>
  (idxO x19.1 (w64 ((w64 (x19.2 - x10.2)) - 1))).bind fun v23 =>
  some (.inl ((x19.1.set (Int.toNat x19.2) (w64 (v22 - v23))), (w64 (x19.2 - 1))))
 else
  some (.inr x19.1)
noncomputable def impl_EulerProduct_b2 (a0 : (List Int)) (x10 : ((List Int) × Int)) (v14 : Int) (x15 : ((List Int) × Int)) : Option (((List Int) × Int) ⊕ (List Int)) :=
 if (decide (x15.2 < v14)) = true then
  (loopO (impl_EulerProduct_b3 x10) (x15.1, (a0.length : Int))).bind fun y20 => impl_EulerProduct_k3 x15 y20
 else
  some (.inr x15.1)
noncomputable def impl_EulerProduct_b1 (a0 : (List Int)) (x10 : ((List Int) × Int)) : Option (((List Int) × Int) ⊕ (List Int)) :=
 if (decide (x10.2 < (a0.length : Int))) = true then
  (idxO a0 x10.2).bind fun v14 =>
  (loopO (impl_EulerProduct_b2 a0 x10 v14) (x10.1, 0)).bind fun y16 => impl_EulerProduct_k2 x10 y16
 else
  some (.inr x10.1)
noncomputable def impl_EulerProduct (a0 : (List Int)) : Option ((List Int) × Bool) :=
 (impl_within (a0.length : Int) 1 8).bind fun v1 =>
 (if (!v1) = true then
   some true
  else
   (slices_ContainsFunc_Lint_int a0 (fun x0 => impl_EulerProduct_1 x0)).bind fun v2 =>
   some v2).bind fun w3 =>
 if w3 = true then
  some ([], false)
 else
  (guardO (0 ≤ (w64 ((a0.length : Int) + 1)) ∧ (w64 ((a0.length : Int) + 1)) ≤ 1099511627776)).bind fun u5 =>
  (idxO (List.replicate (Int.toNat (w64 ((a0.length : Int) + 1))) (0 : Int)) 0).bind fun v6 =>
  (loopO (impl_EulerProduct_b1 a0) (((List.replicate (Int.toNat (w64 ((a0.length : Int) + 1))) (0 : Int)).set (Int.toNat 0) 1), 0)).bind fun y11 => impl_EulerProduct_k1 y11
noncomputable def spec_EulerProduct_k1  (x7 : (List Int)) : Option ((List Int) × Bool) :=
 (spec_l1All x7 (-1000000) 1000000).bind fun v8 =>
 if (!v8) = true then
  some ([], false)
 else
  some (x7, true)
noncomputable def spec_EulerProduct_k2 (x10 : ((List Int) × Int)) (x13 : (List Int)) : Option (((List Int) × Int) ⊕ (List Int)) :=
 some (.inl (x13, (w64 (x10.2 + 1))))
noncomputable def spec_EulerProduct_k3 (x15 : ((List Int) × Int)) (x18 : (List Int)) : Option (((List Int) × Int) ⊕ (List Int)) :=
 some (.inl (x18, (w64 (x15.2 - 1))))
noncomputable def spec_EulerProduct_b3 (x10 : ((List Int) × Int)) (x19 : ((List Int) × Int)) : Option (((List Int) × Int) ⊕ (List Int)) :=
 if (decide (x19.2 ≥ (w64 (x10.2 + 1)))) = true then
  (idxO x19.1 x19.2).bind fun v22 =>
  (idxO x19.1 (w64 (x19.2 - (w64 (x10.2 + 1))))).bind fun v23 =>
  some (.inl ((x19.1.set (Int.toNat x19.2) (w64 (v22 - v23))), (w64 (x19.2 - 1))))
 else
  some (.inr x19.1)
noncomputable def spec_EulerProduct_b2 (a0 : (List Int)) (x10 : ((List Int) × Int)) (x15 : ((List Int) × Int)) : Option (((List Int) × Int) ⊕ (List Int)) :=
 if (decide (x15.2 > 0)) = true then
  (loopO (spec_EulerProduct_b3 x10) (x15.1, (a0.length : Int))).bind fun y20 => spec_EulerProduct_k3 x15 y20
 else
  some (.inr x15.1)
noncomputable def spec_EulerProduct_b1 (a0 : (List Int)) (x10 : ((List Int) × Int)) : Option (((List Int) × Int) ⊕ (List Int)) :=
 if (decide (x10.2 < (a0.length : Int))) = true then
  (idxO a0 x10.2).bind fun v14 =>
  (loopO (spec_EulerProduct_b2 a0 x10) (x10.1, v14)).bind fun y16 => spec_EulerProduct_k2 x10 y16
 else
  some (.inr x10.1)
noncomputable def spec_EulerProduct (a0 : (List Int)) : Option ((List Int) × Bool) :=
 (spec_l1In (a0.length : Int) 1 8).bind fun v1 =>
 (if (!v1) = true then
   some true
  else
   (spec_l1All a0 0 100).bind fun v2 =>
   some (!v2)).bind fun w3 =>
 if w3 = true then
  some ([], false)
 else
  (guardO (0 ≤ (w64 ((a0.length : Int) + 1)) ∧ (w64 ((a0.length : Int) + 1)) ≤ 1099511627776)).bind fun u5 =>
  (idxO (List.replicate (Int.toNat (w64 ((a0.length : Int) + 1))) (0 : Int)) 0).bind fun v6 =>
  (loopO (spec_EulerProduct_b1 a0) (((List.replicate (Int.toNat (w64 ((a0.length : Int) + 1))) (0 : Int)).set (Int.toNat 0) 1), 0)).bind fun y11 => spec_EulerProduct_k1 y11
noncomputable def laws_FnZeta_k2  (x23 : Unit) : Option Bool :=
 some true
noncomputable def laws_FnZeta_k5 (v28 : ((List Int) × Bool)) (x35 : Int) (x38 : Int) : Option (Int ⊕ (Bool ⊕ Unit)) :=
 (idxO v28.1 x35).bind fun v39 =>
 if (v39 != x38) = true then
  some (.inr (.inl false))
 else
  some (.inl (w64 (x35 + 1)))
noncomputable def laws_FnZeta_b1 (v28 : ((List Int) × Bool)) (v30 : ((List Int) × Bool)) (x35 : Int) : Option (Int ⊕ (Bool ⊕ Unit)) :=
 if (v28.2 && (v30.2 && (decide (x35 < (v28.1.length : Int))))) = true then
  if (decide (x35 < (v30.1.length : Int))) = true then
   (idxO v30.1 x35).bind fun v42 =>
   laws_FnZeta_k5 v28 x35 v42
  else
   laws_FnZeta_k5 v28 x35 0
 else
  some (.inr (.inr ()))
noncomputable def laws_FnZeta_k4 (v17 : ((List (List Int)) × Int)) (x26 : (List Int)) : Option Bool :=
 (impl_EulerProduct x26).bind fun v27 =>
 (spec_EulerProduct x26).bind fun v28 =>
 (impl_ZetaDenominator v17.1).bind fun v29 =>
 (spec_ZetaDenominator v17.1).bind fun v30 =>
 (if (!(v27.2 == v28.2)) = true then
   some true
  else
   (laws_sameInts v27.1 v28.1).bind fun v31 =>
   if (!v31) = true then
    some true
   else
    if (!(v29.2 == v30.2)) = true then
     some true
    else
     (laws_sameInts v29.1 v30.1).bind fun v32 =>
     some (!v32)).bind fun w33 =>
 if w33 = true then
  some false
 else
  (loopO (laws_FnZeta_b1 v28 v30) 0).bind fun y36 => (Sum.elim (fun p => some p) (fun p => laws_FnZeta_k2 p)) y36
noncomputable def laws_FnZeta_k3 (v17 : ((List (List Int)) × Int)) (v19 : ((List Int) × Bool)) (x25 : Unit) : Option Bool :=
 if (decide (v17.2 > 8)) = true then
  (guardO (0 ≤ 8 ∧ 8 ≤ (v19.1.length : Int))).bind fun u44 =>
  laws_FnZeta_k4 v17 (v19.1.take (Int.toNat 8))
 else
  laws_FnZeta_k4 v17 v19.1
noncomputable def laws_FnZeta_k6 (x45 : Int) (x48 : Unit) : Option (Int ⊕ (Bool ⊕ Unit)) :=
 some (.inl (w64 (x45 + 1)))
noncomputable def laws_FnZeta_k7 (v17 : ((List (List Int)) × Int)) (v19 : ((List Int) × Bool)) (x45 : Int) (x49 : Int) : Option (Int ⊕ (Bool ⊕ Unit)) :=
 (impl_ClosedWalks v17.1 x45).bind fun v50 =>
 (impl_CycleCount v17.1 x45).bind fun v51 =>
 (if (!v50.2) = true then
   some true
  else
   if (v50.1 != x49) = true then
    some true
   else
    if (!v51.2) = true then
     some true
    else
     (idxO v19.1 (w64 (x45 - 1))).bind fun v52 =>
     some (v51.1 != v52)).bind fun w53 =>
 if w53 = true then
  some (.inr (.inl false))
 else
  laws_FnZeta_k6 x45 ()
noncomputable def laws_FnZeta_b3 (v19 : ((List Int) × Bool)) (x45 : Int) (x55 : Qr) : Option (Qr ⊕ Int) :=
 if (decide (x55.2 ≤ x45)) = true then
  (guardO (x55.2 ≠ 0)).bind fun u58 =>
  if ((Int.tmod x45 x55.2) == 0) = true then
   (idxO v19.1 (w64 (x55.2 - 1))).bind fun v60 =>
   some (.inl ((w64 (x55.1 + (w64 (x55.2 * v60)))), (w64 (x55.2 + 1))))
  else
   some (.inl (x55.1, (w64 (x55.2 + 1))))
 else
  some (.inr x55.1)
noncomputable def laws_FnZeta_b2 (v17 : ((List (List Int)) × Int)) (v19 : ((List Int) × Bool)) (x45 : Int) : Option (Int ⊕ (Bool ⊕ Unit)) :=
 if (decide (x45 ≤ v17.2)) = true then
  (loopO (laws_FnZeta_b3 v19 x45) (0, 1)).bind fun y56 => laws_FnZeta_k7 v17 v19 x45 y56
 else
  some (.inr (.inr ()))
noncomputable def laws_FnZeta_k1 (a1 : (List Int)) (x16 : Unit) : Option Bool :=
 (spec_DrawCycleTable a1).bind fun v17 =>
 (impl_CycleTable v17.1 v17.2).bind fun v18 =>
 (spec_CycleTable v17.1 v17.2).bind fun v19 =>
 (if (!(v18.2 == v19.2)) = true then
   some true
  else
   (laws_sameInts v18.1 v19.1).bind fun v20 =>
   some (!v20)).bind fun w21 =>
 if w21 = true then
  some false
 else
  if v18.2 = true then
   (loopO (laws_FnZeta_b2 v17 v19) 1).bind fun y46 => (Sum.elim (fun p => some p) (fun p => laws_FnZeta_k3 v17 v19 p)) y46
  else
   laws_FnZeta_k2 ()
noncomputable def laws_FnZeta_b4 (v3 : (List (List Int))) (v71 : ((List Int) × Bool)) (x75 : Int) : Option (Int ⊕ (Bool ⊕ Unit)) :=
 if (decide (x75 < (v71.1.length : Int))) = true then
  (idxO v71.1 x75).bind fun v78 =>
  (impl_ClosedWalks v3 (w64 (x75 + 1))).bind fun v79 =>
  (spec_ClosedWalks v3 (w64 (x75 + 1))).bind fun v80 =>
  if ((!(v79.2 == v80.2)) || ((v79.1 != v80.1) || (v80.2 && (v80.1 != v78)))) = true then
   some (.inr (.inl false))
  else
   some (.inl (w64 (x75 + 1)))
 else
  some (.inr (.inr ()))
noncomputable def laws_FnZeta_k9 (a1 : (List Int)) (v3 : (List (List Int))) (v4 : ((List Int) × Bool)) (v5 : ((List Int) × Bool)) (x69 : Unit) : Option Bool :=
 (impl_PowerSums v4.1 6).bind fun v70 =>
 (spec_PowerSums v5.1 6).bind fun v71 =>
 (if (!(v70.2 == v71.2)) = true then
   some true
  else
   (laws_sameInts v70.1 v71.1).bind fun v72 =>
   some (!v72)).bind fun w73 =>
 if w73 = true then
  some false
 else
  (loopO (laws_FnZeta_b4 v3 v71) 0).bind fun y76 => (Sum.elim (fun p => some p) (fun p => laws_FnZeta_k1 a1 p)) y76
noncomputable def laws_FnZeta_b5 (v3 : (List (List Int))) (v5 : ((List Int) × Bool)) (v7 : ((List Int) × Bool)) (x82 : Int) : Option (Int ⊕ (Bool ⊕ Unit)) :=
 if (decide (x82 < (v7.1.length : Int))) = true then
  (idxO v7.1 x82).bind fun v85 =>
  (idxO v5.1 (w64 ((v3.length : Int) - x82))).bind fun v86 =>
  if (v86 != v85) = true then
   some (.inr (.inl false))
  else
   some (.inl (w64 (x82 + 1)))
 else
  some (.inr (.inr ()))
noncomputable def laws_FnZeta_k8 (a1 : (List Int)) (v3 : (List (List Int))) (v4 : ((List Int) × Bool)) (v5 : ((List Int) × Bool)) (v7 : ((List Int) × Bool)) (v9 : (Int × Bool)) (v11 : (Int × Bool)) (x62 : Int) : Option Bool :=
 (if ((v5.1.length : Int) != (w64 ((v3.length : Int) + 1))) = true then
   some true
  else
   (idxO v5.1 (v3.length : Int)).bind fun v63 =>
   if (v63 != 1) = true then
    some true
   else
    (idxO v5.1 (w64 ((v3.length : Int) - 1))).bind fun v64 =>
    if (v64 != (w64 (0 - v11.1))) = true then
     some true
    else
     (idxO v5.1 0).bind fun v65 =>
     if ((w64 (x62 * v65)) != v9.1) = true then
      some true
     else
      (idxO v7.1 0).bind fun v66 =>
      if (v66 != 1) = true then
       some true
      else
       some (decide ((v7.1.length : Int) > (w64 ((v3.length : Int) + 1))))).bind fun w67 =>
 if w67 = true then
  some false
 else
  (loopO (laws_FnZeta_b5 v3 v5 v7) 0).bind fun y83 => (Sum.elim (fun p => some p) (fun p => laws_FnZeta_k9 a1 v3 v4 v5 p)) y83
noncomputable def laws_FnZeta (a0 : (List Int)) (a1 : (List Int)) : Option Bool :=
 (laws_big a0 a1).bind fun v1 =>
 if v1 = true then
  some true
 else
  (spec_DrawCharacteristicOf a0).bind fun v3 =>
  (impl_CharacteristicOf v3).bind fun v4 =>
  (spec_CharacteristicOf v3).bind fun v5 =>
  (impl_ZetaDenominator v3).bind fun v6 =>
  (spec_ZetaDenominator v3).bind fun v7 =>
  (impl_DeterminantOf v3).bind fun v8 =>
  (spec_DeterminantOf v3).bind fun v9 =>
  (impl_TraceOf v3).bind fun v10 =>
  (spec_TraceOf v3).bind fun v11 =>
  (if (!(v4.2 == v5.2)) = true then
    some true
   else
    (laws_sameInts v4.1 v5.1).bind fun v12 =>
    if (!v12) = true then
     some true
    else
     if (!(v6.2 == v7.2)) = true then
      some true
     else
      (laws_sameInts v6.1 v7.1).bind fun v13 =>
      if (!v13) = true then
       some true
      else
       if (!(v8.2 == v9.2)) = true then
        some true
       else
        if (v8.1 != v9.1) = true then
         some true
        else
         if (!(v10.2 == v11.2)) = true then
          some true
         else
          if (v10.1 != v11.1) = true then
           some true
          else
           if (!(v8.2 == v10.2)) = true then
            some true
           else
            if v4.2 = true then
             if (!v10.2) = true then
              some true
             else
              some (!(v6.2 == v4.2))
            else
             some (!(v6.2 == v4.2))).bind fun w14 =>
  if w14 = true then
   some false
  else
   if v4.2 = true then
    if ((Int.tmod (v3.length : Int) 2) == 1) = true then
     laws_FnZeta_k8 a1 v3 v4 v5 v7 v9 v11 (-1)
    else
     laws_FnZeta_k8 a1 v3 v4 v5 v7 v9 v11 1
   else
    laws_FnZeta_k1 a1 ()
end Go.PV
