/-
  Plain definitions of what the functions answer.
  Conditions: none.
-/
import Derived.Test.YtbdedaimgddjoaaPvCx
set_option linter.all false
namespace Go.PV
noncomputable def spec_l1In (a0 : Int) (a1 : Int) (a2 : Int) : Option Bool :=
 some ((decide (a0 ≥ a1)) && (decide (a0 ≤ a2)))
noncomputable def impl_within (a0 : Int) (a1 : Int) (a2 : Int) : Option Bool :=
 some ((decide (a1 ≤ a0)) && (decide (a0 ≤ a2)))
noncomputable def laws_toIntS_k1  (x2 : (List Int)) : Option (List Int) :=
 some x2
noncomputable def laws_toIntS_b1 (a0 : (List Int)) (x3 : ((List Int) × Int)) : Option (((List Int) × Int) ⊕ (List Int)) :=
 if (decide (x3.2 < (a0.length : Int))) = true then
  (idxO a0 x3.2).bind fun v6 =>
  (idxO x3.1 x3.2).bind fun v7 =>
  some (.inl ((x3.1.set (Int.toNat x3.2) v6), (w64 (x3.2 + 1))))
 else
  some (.inr x3.1)
noncomputable def laws_toIntS (a0 : (List Int)) : Option (List Int) :=
 (guardO (0 ≤ (a0.length : Int) ∧ (a0.length : Int) ≤ 1099511627776)).bind fun u1 =>
 (loopO (laws_toIntS_b1 a0) ((List.replicate (Int.toNat (a0.length : Int)) (0 : Int)), 0)).bind fun y4 => laws_toIntS_k1 y4
noncomputable def spec_l1All_k1  (x1 : Unit) : Option Bool :=
 some true
noncomputable def spec_l1All_b1 (a0 : (List Int)) (a1 : Int) (a2 : Int) (x2 : Int) : Option (Int ⊕ (Bool ⊕ Unit)) :=
 if (decide (x2 < (a0.length : Int))) = true then
  (idxO a0 x2).bind fun v5 =>
  (spec_l1In v5 a1 a2).bind fun v6 =>
  if (!v6) = true then
   some (.inr (.inl false))
  else
   some (.inl (w64 (x2 + 1)))
 else
  some (.inr (.inr ()))
noncomputable def spec_l1All (a0 : (List Int)) (a1 : Int) (a2 : Int) : Option Bool :=
 (loopO (spec_l1All_b1 a0 a1 a2) 0).bind fun y3 => (Sum.elim (fun p => some p) (fun p => spec_l1All_k1 p)) y3
noncomputable def spec_gwVector (a0 : (List Int)) : Option Bool :=
 (spec_l1In (a0.length : Int) 1 8).bind fun v1 =>
 (if v1 = true then
   (spec_l1All a0 1 1000000).bind fun v2 =>
   some v2
  else
   some false).bind fun w3 =>
 some w3
noncomputable def slices_IndexFunc_Lint_int_k1  (x1 : Unit) : Option Int :=
 some (-1)
noncomputable def slices_IndexFunc_Lint_int_b1 (a0 : (List Int)) (a1 : Int → Option Bool) (x2 : Int) : Option (Int ⊕ (Int ⊕ Unit)) :=
 if (decide (x2 < (a0.length : Int))) = true then
  (idxO a0 x2).bind fun v5 =>
  (a1 v5).bind fun v6 =>
  if v6 = true then
   some (.inr (.inl x2))
  else
   some (.inl (w64 (x2 + 1)))
 else
  some (.inr (.inr ()))
noncomputable def slices_IndexFunc_Lint_int (a0 : (List Int)) (a1 : (Int → Option Bool)) : Option Int :=
 (loopO (slices_IndexFunc_Lint_int_b1 a0 a1) 0).bind fun y3 => (Sum.elim (fun p => some p) (fun p => slices_IndexFunc_Lint_int_k1 p)) y3
noncomputable def slices_ContainsFunc_Lint_int (a0 : (List Int)) (a1 : (Int → Option Bool)) : Option Bool :=
 (slices_IndexFunc_Lint_int a0 a1).bind fun v1 =>
 some (decide (v1 ≥ 0))
noncomputable def impl_isVector_1 (a0 : Int) : Option Bool :=
 (impl_within a0 1 1000000).bind fun v1 =>
 some (!v1)
noncomputable def impl_isVector (a0 : (List Int)) : Option Bool :=
 (impl_within (a0.length : Int) 1 8).bind fun v1 =>
 (if v1 = true then
   (slices_ContainsFunc_Lint_int a0 (fun x0 => impl_isVector_1 x0)).bind fun v2 =>
   some (!v2)
  else
   some false).bind fun w3 =>
 some w3
noncomputable def laws_eqIntS_k1  (x2 : Unit) : Option Bool :=
 some true
noncomputable def laws_eqIntS_b1 (a0 : (List Int)) (a1 : (List Int)) (x3 : Int) : Option (Int ⊕ (Bool ⊕ Unit)) :=
 if (decide (x3 < (a0.length : Int))) = true then
  (idxO a0 x3).bind fun v6 =>
  (idxO a1 x3).bind fun v7 =>
  if (v6 != v7) = true then
   some (.inr (.inl false))
  else
   some (.inl (w64 (x3 + 1)))
 else
  some (.inr (.inr ()))
noncomputable def laws_eqIntS (a0 : (List Int)) (a1 : (List Int)) : Option Bool :=
 if ((a0.length : Int) != (a1.length : Int)) = true then
  some false
 else
  (loopO (laws_eqIntS_b1 a0 a1) 0).bind fun y4 => (Sum.elim (fun p => some p) (fun p => laws_eqIntS_k1 p)) y4
noncomputable def laws_szIntS (a0 : (List Int)) (a1 : Int) : Option Int :=
 if (decide ((w64 (a1 - (a0.length : Int))) < 0)) = true then
  some (-1)
 else
  some (w64 (a1 - (a0.length : Int)))
noncomputable def laws_szIntSS_k1  (x2 : Int) : Option Int :=
 some x2
noncomputable def laws_szIntSS_b1 (a0 : (List (List Int))) (x3 : Qr) : Option (Qr ⊕ (Int ⊕ Int)) :=
 if (decide (x3.2 < (a0.length : Int))) = true then
  (idxO a0 x3.2).bind fun v6 =>
  (laws_szIntS v6 x3.1).bind fun v7 =>
  if (decide (v7 < 0)) = true then
   some (.inr (.inl (-1)))
  else
   some (.inl (v7, (w64 (x3.2 + 1))))
 else
  some (.inr (.inr x3.1))
noncomputable def laws_szIntSS (a0 : (List (List Int))) (a1 : Int) : Option Int :=
 if (decide ((w64 (a1 - (a0.length : Int))) < 0)) = true then
  some (-1)
 else
  (loopO (laws_szIntSS_b1 a0) ((w64 (a1 - (a0.length : Int))), 0)).bind fun y4 => (Sum.elim (fun p => some p) (fun p => laws_szIntSS_k1 p)) y4
noncomputable def laws_toIntSS_k1  (x2 : (List (List Int))) : Option (List (List Int)) :=
 some x2
noncomputable def laws_toIntSS_b1 (a0 : (List (List Int))) (x3 : ((List (List Int)) × Int)) : Option (((List (List Int)) × Int) ⊕ (List (List Int))) :=
 if (decide (x3.2 < (a0.length : Int))) = true then
  (idxO a0 x3.2).bind fun v6 =>
  (laws_toIntS v6).bind fun v7 =>
  (idxO x3.1 x3.2).bind fun v8 =>
  some (.inl ((x3.1.set (Int.toNat x3.2) v7), (w64 (x3.2 + 1))))
 else
  some (.inr x3.1)
noncomputable def laws_toIntSS (a0 : (List (List Int))) : Option (List (List Int)) :=
 (guardO (0 ≤ (a0.length : Int) ∧ (a0.length : Int) ≤ 1099511627776)).bind fun u1 =>
 (loopO (laws_toIntSS_b1 a0) ((List.replicate (Int.toNat (a0.length : Int)) ([] : (List Int))), 0)).bind fun y4 => laws_toIntSS_k1 y4
noncomputable def spec_grGood_k1  (x3 : Unit) : Option Bool :=
 some true
noncomputable def spec_grGood_b1 (a0 : (List (List Int))) (x4 : Int) : Option (Int ⊕ (Bool ⊕ Unit)) :=
 if (decide (x4 < (a0.length : Int))) = true then
  (idxO a0 x4).bind fun v7 =>
  (if ((v7.length : Int) != (a0.length : Int)) = true then
    some true
   else
    (spec_l1All v7 0 9).bind fun v8 =>
    some (!v8)).bind fun w9 =>
  if w9 = true then
   some (.inr (.inl false))
  else
   some (.inl (w64 (x4 + 1)))
 else
  some (.inr (.inr ()))
noncomputable def spec_grGood (a0 : (List (List Int))) : Option Bool :=
 (spec_l1In (a0.length : Int) 1 8).bind fun v1 =>
 if (!v1) = true then
  some false
 else
  (loopO (spec_grGood_b1 a0) 0).bind fun y5 => (Sum.elim (fun p => some p) (fun p => spec_grGood_k1 p)) y5
noncomputable def spec_gwTimes_k1  (x1 : (List Int)) : Option (List Int) :=
 some x1
noncomputable def spec_gwTimes_k2 (x2 : ((List Int) × Int)) (x5 : (List Int)) : Option (((List Int) × Int) ⊕ (List Int)) :=
 some (.inl (x5, (w64 (x2.2 + 1))))
noncomputable def spec_gwTimes_k3 (x2 : ((List Int) × Int)) (x7 : Int) : Option (((List Int) × Int) ⊕ (List Int)) :=
 (guardO (x2.1.length + ([x7]).length ≤ 1099511627776)).bind fun u8 =>
 spec_gwTimes_k2 x2 (x2.1 ++ [x7])
noncomputable def spec_gwTimes_b2 (a1 : (List Int)) (v6 : (List Int)) (x9 : Qr) : Option (Qr ⊕ Int) :=
 if (decide (x9.2 < (v6.length : Int))) = true then
  (idxO v6 x9.2).bind fun v12 =>
  (idxO a1 x9.2).bind fun v13 =>
  some (.inl ((w64 (x9.1 + (w64 (v12 * v13)))), (w64 (x9.2 + 1))))
 else
  some (.inr x9.1)
noncomputable def spec_gwTimes_b1 (a0 : (List (List Int))) (a1 : (List Int)) (x2 : ((List Int) × Int)) : Option (((List Int) × Int) ⊕ (List Int)) :=
 if (decide (x2.2 < (a0.length : Int))) = true then
  (idxO a0 x2.2).bind fun v6 =>
  (loopO (spec_gwTimes_b2 a1 v6) (0, 0)).bind fun y10 => spec_gwTimes_k3 x2 y10
 else
  some (.inr x2.1)
noncomputable def spec_gwTimes (a0 : (List (List Int))) (a1 : (List Int)) : Option (List Int) :=
 (loopO (spec_gwTimes_b1 a0 a1) ([], 0)).bind fun y3 => spec_gwTimes_k1 y3
noncomputable def slices_IndexFunc_LLint_Lint_k1  (x1 : Unit) : Option Int :=
 some (-1)
noncomputable def slices_IndexFunc_LLint_Lint_b1 (a0 : (List (List Int))) (a1 : (List Int) → Option Bool) (x2 : Int) : Option (Int ⊕ (Int ⊕ Unit)) :=
 if (decide (x2 < (a0.length : Int))) = true then
  (idxO a0 x2).bind fun v5 =>
  (a1 v5).bind fun v6 =>
  if v6 = true then
   some (.inr (.inl x2))
  else
   some (.inl (w64 (x2 + 1)))
 else
  some (.inr (.inr ()))
noncomputable def slices_IndexFunc_LLint_Lint (a0 : (List (List Int))) (a1 : ((List Int) → Option Bool)) : Option Int :=
 (loopO (slices_IndexFunc_LLint_Lint_b1 a0 a1) 0).bind fun y3 => (Sum.elim (fun p => some p) (fun p => slices_IndexFunc_LLint_Lint_k1 p)) y3
noncomputable def slices_ContainsFunc_LLint_Lint (a0 : (List (List Int))) (a1 : ((List Int) → Option Bool)) : Option Bool :=
 (slices_IndexFunc_LLint_Lint a0 a1).bind fun v1 =>
 some (decide (v1 ≥ 0))
noncomputable def impl_isGraph_1_1 (a0 : Int) : Option Bool :=
 (impl_within a0 0 9).bind fun v1 =>
 some (!v1)
noncomputable def impl_isGraph_1 (a0 : (List Int)) (c0 : (List (List Int))) : Option Bool :=
 (if ((a0.length : Int) != (c0.length : Int)) = true then
   some true
  else
   (slices_ContainsFunc_Lint_int a0 (fun x0 => impl_isGraph_1_1 x0)).bind fun v1 =>
   some v1).bind fun w2 =>
 some w2
noncomputable def impl_isGraph (a0 : (List (List Int))) : Option Bool :=
 (impl_within (a0.length : Int) 1 8).bind fun v1 =>
 (if v1 = true then
   (slices_ContainsFunc_LLint_Lint a0 (fun x0 => impl_isGraph_1 x0 a0)).bind fun v2 =>
   some (!v2)
  else
   some false).bind fun w3 =>
 some w3
noncomputable def impl_times_k1  (x2 : (List Int)) : Option (List Int) :=
 some x2
noncomputable def impl_times_k2 (x3 : ((List Int) × Int)) (x6 : (List Int)) : Option (((List Int) × Int) ⊕ (List Int)) :=
 some (.inl (x6, (w64 (x3.2 + 1))))
noncomputable def impl_times_b2 (a1 : (List Int)) (x3 : ((List Int) × Int)) (v7 : (List Int)) (x8 : ((List Int) × Int)) : Option (((List Int) × Int) ⊕ (List Int)) :=
 if (decide (x8.2 < (v7.length : Int))) = true then
  (idxO v7 x8.2).bind fun v11 =>
  (idxO x8.1 x3.2).bind fun v12 =>
  (idxO a1 x8.2).bind fun v13 =>
  some (.inl ((x8.1.set (Int.toNat x3.2) (w64 (v12 + (w64 (v11 * v13))))), (w64 (x8.2 + 1))))
 else
  some (.inr x8.1)
noncomputable def impl_times_b1 (a0 : (List (List Int))) (a1 : (List Int)) (x3 : ((List Int) × Int)) : Option (((List Int) × Int) ⊕ (List Int)) :=
 if (decide (x3.2 < (a0.length : Int))) = true then
  (idxO a0 x3.2).bind fun v7 =>
  (loopO (impl_times_b2 a1 x3 v7) (x3.1, 0)).bind fun y9 => impl_times_k2 x3 y9
 else
  some (.inr x3.1)
noncomputable def impl_times (a0 : (List (List Int))) (a1 : (List Int)) : Option (List Int) :=
 (guardO (0 ≤ (a0.length : Int) ∧ (a0.length : Int) ≤ 1099511627776)).bind fun u1 =>
 (loopO (impl_times_b1 a0 a1) ((List.replicate (Int.toNat (a0.length : Int)) (0 : Int)), 0)).bind fun y4 => impl_times_k1 y4
noncomputable def laws_eqIntSS_k1  (x2 : Unit) : Option Bool :=
 some true
noncomputable def laws_eqIntSS_b1 (a0 : (List (List Int))) (a1 : (List (List Int))) (x3 : Int) : Option (Int ⊕ (Bool ⊕ Unit)) :=
 if (decide (x3 < (a0.length : Int))) = true then
  (idxO a0 x3).bind fun v6 =>
  (idxO a1 x3).bind fun v7 =>
  (laws_eqIntS v6 v7).bind fun v8 =>
  if (!v8) = true then
   some (.inr (.inl false))
  else
   some (.inl (w64 (x3 + 1)))
 else
  some (.inr (.inr ()))
noncomputable def laws_eqIntSS (a0 : (List (List Int))) (a1 : (List (List Int))) : Option Bool :=
 if ((a0.length : Int) != (a1.length : Int)) = true then
  some false
 else
  (loopO (laws_eqIntSS_b1 a0 a1) 0).bind fun y4 => (Sum.elim (fun p => some p) (fun p => laws_eqIntSS_k1 p)) y4
noncomputable def laws_markIntS_k1  (x1 : ((List Int) × Int)) : Option (Int × (List Int)) :=
 some (x1.2, x1.1)
noncomputable def laws_markIntS_b1  (x2 : Cu) : Option (Cu ⊕ ((List Int) × Int)) :=
 if (decide (x2.2.2 < (x2.1.length : Int))) = true then
  (idxO x2.1 x2.2.2).bind fun v5 =>
  some (.inl ((x2.1.set (Int.toNat x2.2.2) x2.2.1), (w64 (x2.2.1 + 1)), (w64 (x2.2.2 + 1))))
 else
  some (.inr (x2.1, x2.2.1))
noncomputable def laws_markIntS (a0 : (List Int)) (a1 : Int) : Option (Int × (List Int)) :=
 (loopO laws_markIntS_b1 (a0, a1, 0)).bind fun y3 => laws_markIntS_k1 y3
noncomputable def laws_markIntSS_k1  (x1 : ((List (List Int)) × Int)) : Option (Int × (List (List Int))) :=
 some (x1.2, x1.1)
noncomputable def laws_markIntSS_b1  (x2 : ((List (List Int)) × Int × Int)) : Option (((List (List Int)) × Int × Int) ⊕ ((List (List Int)) × Int)) :=
 if (decide (x2.2.2 < (x2.1.length : Int))) = true then
  (idxO x2.1 x2.2.2).bind fun v5 =>
  (laws_markIntS v5 x2.2.1).bind fun v6 =>
  some (.inl ((x2.1.set (Int.toNat x2.2.2) v6.2), v6.1, (w64 (x2.2.2 + 1))))
 else
  some (.inr (x2.1, x2.2.1))
noncomputable def laws_markIntSS (a0 : (List (List Int))) (a1 : Int) : Option (Int × (List (List Int))) :=
 (loopO laws_markIntSS_b1 (a0, a1, 0)).bind fun y3 => laws_markIntSS_k1 y3
noncomputable def laws_heldIntS_k1  (x1 : Int) : Option Int :=
 some x1
noncomputable def laws_heldIntS_b1 (a0 : (List Int)) (x2 : Qr) : Option (Qr ⊕ (Int ⊕ Int)) :=
 if (decide (x2.2 < (a0.length : Int))) = true then
  (idxO a0 x2.2).bind fun v5 =>
  if (v5 != x2.1) = true then
   some (.inr (.inl (-1)))
  else
   some (.inl ((w64 (x2.1 + 1)), (w64 (x2.2 + 1))))
 else
  some (.inr (.inr x2.1))
noncomputable def laws_heldIntS (a0 : (List Int)) (a1 : Int) : Option Int :=
 (loopO (laws_heldIntS_b1 a0) (a1, 0)).bind fun y3 => (Sum.elim (fun p => some p) (fun p => laws_heldIntS_k1 p)) y3
noncomputable def math_bits_Mul64 (a0 : Int) (a1 : Int) : Option Qr :=
 some ((IntKind.wrap .u64 ((IntKind.wrap .u64 ((IntKind.wrap .u64 ((ishr .u64 a0 32) * (ishr .u64 a1 32))) + (ishr .u64 (IntKind.wrap .u64 ((IntKind.wrap .u64 ((ishr .u64 a0 32) * (iand .u64 a1 4294967295))) + (ishr .u64 (IntKind.wrap .u64 ((iand .u64 a0 4294967295) * (iand .u64 a1 4294967295))) 32))) 32))) + (ishr .u64 (IntKind.wrap .u64 ((iand .u64 (IntKind.wrap .u64 ((IntKind.wrap .u64 ((ishr .u64 a0 32) * (iand .u64 a1 4294967295))) + (ishr .u64 (IntKind.wrap .u64 ((iand .u64 a0 4294967295) * (iand .u64 a1 4294967295))) 32))) 4294967295) + (IntKind.wrap .u64 ((iand .u64 a0 4294967295) * (ishr .u64 a1 32))))) 32))), (IntKind.wrap .u64 (a0 * a1)))
noncomputable def math_bits_Mul (a0 : Int) (a1 : Int) : Option Qr :=
 (math_bits_Mul64 a0 a1).bind fun v2 =>
 some v2
noncomputable def slices_Repeat_Lint_int_k3  (x5 : (List Int)) : Option (List Int) :=
 some x5
noncomputable def slices_Repeat_Lint_int_b1  (x6 : ((List Int) × Int)) : Option (((List Int) × Int) ⊕ (List Int)) :=
 if (decide (x6.2 < (x6.1.length : Int))) = true then
  (guardO (0 ≤ x6.2 ∧ x6.2 ≤ (x6.1.length : Int))).bind fun u9 =>
  some (.inl ((copyAt x6.1 (Int.toNat x6.2) (x6.1.take (Int.toNat x6.2))), (w64 (x6.2 + (min (Int.toNat x6.2) (x6.1.length - (Int.toNat x6.2)) : Nat)))))
 else
  some (.inr x6.1)
noncomputable def slices_Repeat_Lint_int_k2 (a0 : (List Int)) (v2 : Qr) (x3 : Unit) : Option (List Int) :=
 (guardO (0 ≤ (IntKind.wrap .i64 v2.2) ∧ (IntKind.wrap .i64 v2.2) ≤ 1099511627776)).bind fun u4 =>
 (loopO slices_Repeat_Lint_int_b1 ((copyAt (List.replicate (Int.toNat (IntKind.wrap .i64 v2.2)) (0 : Int)) 0 a0), ((min a0.length (List.replicate (Int.toNat (IntKind.wrap .i64 v2.2)) (0 : Int)).length : Nat) : Int))).bind fun y7 => slices_Repeat_Lint_int_k3 y7
noncomputable def slices_Repeat_Lint_int_k1 (a0 : (List Int)) (a1 : Int) (x1 : Unit) : Option (List Int) :=
 (math_bits_Mul (IntKind.wrap .u64 (a0.length : Int)) (IntKind.wrap .u64 a1)).bind fun v2 =>
 if ((decide (v2.1 > 0)) || (decide (v2.2 > 9223372036854775807))) = true then
  none
 else
  slices_Repeat_Lint_int_k2 a0 v2 ()
noncomputable def slices_Repeat_Lint_int (a0 : (List Int)) (a1 : Int) : Option (List Int) :=
 if (decide (a1 < 0)) = true then
  none
 else
  slices_Repeat_Lint_int_k1 a0 a1 ()
noncomputable def spec_gwSteps (a0 : Int) : Option Bool :=
 (spec_l1In a0 0 20).bind fun v1 =>
 some v1
noncomputable def spec_gwWalks_k2  (x3 : (List Int)) : Option ((List Int) × Bool) :=
 some (x3, true)
noncomputable def spec_gwWalks_k3 (x4 : (Int × (List Int))) (x7 : (List Int)) : Option ((Int × (List Int)) ⊕ (((List Int) × Bool) ⊕ (List Int))) :=
 some (.inl ((w64 (x4.1 - 1)), x7))
noncomputable def spec_gwWalks_k4 (x4 : (Int × (List Int))) (x8 : (List Int)) : Option ((Int × (List Int)) ⊕ (((List Int) × Bool) ⊕ (List Int))) :=
 (spec_gwVector x8).bind fun v9 =>
 if (!v9) = true then
  some (.inr (.inl ([], false)))
 else
  spec_gwWalks_k3 x4 x8
noncomputable def spec_gwWalks_b2 (v11 : (List Int)) (x12 : ((List Int) × Int)) : Option (((List Int) × Int) ⊕ (List Int)) :=
 if (decide (x12.2 < (v11.length : Int))) = true then
  (idxO v11 x12.2).bind fun v15 =>
  (idxO x12.1 x12.2).bind fun v16 =>
  some (.inl ((x12.1.set (Int.toNat x12.2) (w64 (v16 + v15))), (w64 (x12.2 + 1))))
 else
  some (.inr x12.1)
noncomputable def spec_gwWalks_b1 (a0 : (List (List Int))) (x4 : (Int × (List Int))) : Option ((Int × (List Int)) ⊕ (((List Int) × Bool) ⊕ (List Int))) :=
 if (decide (x4.1 > 0)) = true then
  (spec_gwTimes a0 x4.2).bind fun v11 =>
  (loopO (spec_gwWalks_b2 v11) (x4.2, 0)).bind fun y13 => spec_gwWalks_k4 x4 y13
 else
  some (.inr (.inr x4.2))
noncomputable def spec_gwWalks_k1 (a0 : (List (List Int))) (a1 : Int) (x2 : (List Int)) : Option ((List Int) × Bool) :=
 (loopO (spec_gwWalks_b1 a0) (a1, x2)).bind fun y5 => (Sum.elim (fun p => some p) (fun p => spec_gwWalks_k2 p)) y5
noncomputable def spec_gwWalks_b3 (a0 : (List (List Int))) (x17 : ((List Int) × Int)) : Option (((List Int) × Int) ⊕ (List Int)) :=
 if (decide (x17.2 < ((List.replicate (Int.toNat (a0.length : Int)) (0 : Int)).length : Int))) = true then
  (idxO x17.1 x17.2).bind fun v20 =>
  some (.inl ((x17.1.set (Int.toNat x17.2) 1), (w64 (x17.2 + 1))))
 else
  some (.inr x17.1)
noncomputable def spec_gwWalks (a0 : (List (List Int))) (a1 : Int) : Option ((List Int) × Bool) :=
 (guardO (0 ≤ (a0.length : Int) ∧ (a0.length : Int) ≤ 1099511627776)).bind fun u1 =>
 (loopO (spec_gwWalks_b3 a0) ((List.replicate (Int.toNat (a0.length : Int)) (0 : Int)), 0)).bind fun y18 => spec_gwWalks_k1 a0 a1 y18
noncomputable def spec_WalkVector (a0 : (List (List Int))) (a1 : Int) : Option ((List Int) × Bool) :=
 (spec_grGood a0).bind fun v1 =>
 (if (!v1) = true then
   some true
  else
   (spec_gwSteps a1).bind fun v2 =>
   some (!v2)).bind fun w3 =>
 if w3 = true then
  some ([], false)
 else
  (spec_gwWalks a0 a1).bind fun v5 =>
  some v5
noncomputable def impl_walkVectorsO_k1  (x2 : (List (List Int))) : Option (List (List Int)) :=
 some x2
noncomputable def impl_walkVectorsO_k2 (x3 : ((List (List Int)) × Int)) (x6 : (List (List Int))) : Option (((List (List Int)) × Int) ⊕ (List (List Int))) :=
 some (.inl (x6, (w64 (x3.2 + 1))))
noncomputable def impl_walkVectorsO_k3 (x3 : ((List (List Int)) × Int)) (x9 : (List Int)) : Option (((List (List Int)) × Int) ⊕ (List (List Int))) :=
 (impl_isVector x9).bind fun v10 =>
 if (!v10) = true then
  some (.inr x3.1)
 else
  (guardO (x3.1.length + 1 ≤ 1099511627776)).bind fun u12 =>
  impl_walkVectorsO_k2 x3 (x3.1 ++ [x9])
noncomputable def impl_walkVectorsO_b2 (v7 : (List Int)) (v8 : (List Int)) (x13 : ((List Int) × Int)) : Option (((List Int) × Int) ⊕ (List Int)) :=
 if (decide (x13.2 < (v8.length : Int))) = true then
  (idxO x13.1 x13.2).bind fun v16 =>
  (idxO v7 x13.2).bind fun v17 =>
  some (.inl ((x13.1.set (Int.toNat x13.2) (w64 (v16 + v17))), (w64 (x13.2 + 1))))
 else
  some (.inr x13.1)
noncomputable def impl_walkVectorsO_b1 (a0 : (List (List Int))) (a1 : Int) (x3 : ((List (List Int)) × Int)) : Option (((List (List Int)) × Int) ⊕ (List (List Int))) :=
 if (decide (x3.2 < a1)) = true then
  (idxO x3.1 ((x3.1.length : Int) - 1)).bind fun v7 =>
  (impl_times a0 v7).bind fun v8 =>
  (loopO (impl_walkVectorsO_b2 v7 v8) (v8, 0)).bind fun y14 => impl_walkVectorsO_k3 x3 y14
 else
  some (.inr x3.1)
noncomputable def impl_walkVectorsO (a0 : (List (List Int))) (a1 : Int) : Option (List (List Int)) :=
 (slices_Repeat_Lint_int ([1]) (a0.length : Int)).bind fun v1 =>
 (loopO (impl_walkVectorsO_b1 a0 a1) ([v1], 0)).bind fun y4 => impl_walkVectorsO_k1 y4
noncomputable def impl_WalkVectorO (a0 : (List (List Int))) (a1 : Int) : Option ((List Int) × Bool) :=
 (impl_isGraph a0).bind fun v1 =>
 (if (!v1) = true then
   some true
  else
   (impl_within a1 0 20).bind fun v2 =>
   some (!v2)).bind fun w3 =>
 if w3 = true then
  some ([], false)
 else
  (impl_walkVectorsO a0 a1).bind fun v5 =>
  if (decide ((v5.length : Int) ≤ a1)) = true then
   some ([], false)
  else
   (idxO v5 a1).bind fun v7 =>
   some (v7, true)
noncomputable def laws_FnExactWalkVector (a0 : (List (List Int))) (a1 : Int) : Option Bool :=
 (laws_szIntSS a0 1048576).bind fun v1 =>
 if (decide (v1 < 0)) = true then
  some true
 else
  (laws_toIntSS a0).bind fun v3 =>
  (spec_WalkVector v3 a1).bind fun v4 =>
  (laws_toIntSS a0).bind fun v5 =>
  (impl_WalkVectorO v5 a1).bind fun v6 =>
  (laws_eqIntS v6.1 v4.1).bind fun v7 =>
  if ((!v7) || (!(v6.2 == v4.2))) = true then
   some false
  else
   (laws_toIntSS a0).bind fun v9 =>
   (laws_eqIntSS v5 v9).bind fun v10 =>
   if (!v10) = true then
    some false
   else
    (laws_markIntSS v5 1).bind fun v12 =>
    (if (decide (v12.1 < 0)) = true then
      some true
     else
      (laws_eqIntS v6.1 v4.1).bind fun v13 =>
      if (!v13) = true then
       some true
      else
       some (!(v6.2 == v4.2))).bind fun w14 =>
    if w14 = true then
     some false
    else
     (laws_markIntS v6.1 1).bind fun v16 =>
     (laws_heldIntS v16.2 1).bind fun v17 =>
     if (decide (v17 < 0)) = true then
      some false
     else
      if (v17 != v16.1) = true then
       some false
      else
       (laws_toIntSS a0).bind fun v20 =>
       (impl_WalkVectorO v20 a1).bind fun v21 =>
       (laws_eqIntS v21.1 v4.1).bind fun v22 =>
       if ((!v22) || (!(v21.2 == v4.2))) = true then
        some false
       else
        (laws_heldIntS v16.2 1).bind fun v24 =>
        if (decide (v24 < 0)) = true then
         some false
        else
         if (v24 != v16.1) = true then
          some false
         else
          some true
end Go.PV
