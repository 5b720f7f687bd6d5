/-
  Plain definitions of what the functions answer.
  Conditions: none.
-/
import Derived.Test.YtkcfcccfonekoaaPvCx
set_option linter.all false
namespace Go.PV
noncomputable def spec_l1In (a0 : Int) (a1 : Int) (a2 : Int) : Option Bool :=
 some ((decide (a0 ≥ a1)) && (decide (a0 ≤ a2)))
noncomputable def impl_within (a0 : Int) (a1 : Int) (a2 : Int) : Option Bool :=
 some ((decide (a1 ≤ a0)) && (decide (a0 ≤ a2)))
noncomputable def laws_toRat (a0 : Qr) : Option Qr :=
 some a0
noncomputable def spec_l1Most (a0 : Int) (a1 : Int) : Option Int :=
 if (decide (a0 > a1)) = true then
  some a0
 else
  some a1
noncomputable def spec_l1Abs (a0 : Int) : Option Int :=
 (spec_l1Most a0 (w64 (0 - a0))).bind fun v1 =>
 some v1
noncomputable def spec_raCommon_k1  (x1 : Int) : Option Int :=
 some x1
noncomputable def spec_raCommon_b1  (x2 : Qr) : Option (Qr ⊕ Int) :=
 if (decide (x2.2 > 0)) = true then
  (guardO (x2.2 ≠ 0)).bind fun u5 =>
  some (.inl (x2.2, (Int.tmod x2.1 x2.2)))
 else
  some (.inr x2.1)
noncomputable def spec_raCommon (a0 : Int) (a1 : Int) : Option Int :=
 (loopO spec_raCommon_b1 (a0, a1)).bind fun y3 => spec_raCommon_k1 y3
noncomputable def spec_raGood (a0 : Qr) : Option Bool :=
 (spec_l1In a0.2 1 1000000000).bind fun v1 =>
 (if v1 = true then
   (spec_l1In a0.1 (-1000000000) 1000000000).bind fun v2 =>
   if v2 = true then
    (spec_l1Abs a0.1).bind fun v3 =>
    (spec_raCommon v3 a0.2).bind fun v4 =>
    some (v4 == 1)
   else
    some false
  else
   some false).bind fun w5 =>
 some w5
noncomputable def spec_raDown (a0 : Int) (a1 : Int) : Option Int :=
 if (a1 == 0) = true then
  some 0
 else
  (guardO (a1 ≠ 0)).bind fun u2 =>
  if (decide ((Int.tmod a0 a1) < 0)) = true then
   some (w64 ((w64 (Int.tdiv a0 a1)) - 1))
  else
   some (w64 (Int.tdiv a0 a1))
noncomputable def spec_raFloor (a0 : Qr) : Option Int :=
 (spec_raDown a0.1 a0.2).bind fun v1 =>
 some v1
noncomputable def impl_abs (a0 : Int) : Option Int :=
 if (decide (a0 < 0)) = true then
  some (w64 (0 - a0))
 else
  some a0
noncomputable def impl_greatestDivisor_k1  (x3 : Int) : Option Int :=
 some x3
noncomputable def impl_greatestDivisor_b1  (x4 : Qr) : Option (Qr ⊕ Int) :=
 if (x4.2 != 0) = true then
  (guardO (x4.2 ≠ 0)).bind fun u7 =>
  some (.inl (x4.2, (Int.tmod x4.1 x4.2)))
 else
  some (.inr x4.1)
noncomputable def impl_greatestDivisor (a0 : Int) (a1 : Int) : Option Int :=
 (impl_abs a0).bind fun v1 =>
 (impl_abs a1).bind fun v2 =>
 (loopO impl_greatestDivisor_b1 (v1, v2)).bind fun y5 => impl_greatestDivisor_k1 y5
noncomputable def impl_isRat (a0 : Qr) : Option Bool :=
 (impl_within a0.2 1 1000000000).bind fun v1 =>
 (if v1 = true then
   (impl_within a0.1 (-1000000000) 1000000000).bind fun v2 =>
   if v2 = true then
    (impl_greatestDivisor a0.1 a0.2).bind fun v3 =>
    some (v3 == 1)
   else
    some false
  else
   some false).bind fun w4 =>
 some w4
noncomputable def impl_compare (a0 : Qr) (a1 : Qr) : Option Int :=
 if (decide ((w64 (a0.1 * a1.2)) < (w64 (a1.1 * a0.2)))) = true then
  some (-1)
 else
  if (decide ((w64 (a0.1 * a1.2)) > (w64 (a1.1 * a0.2)))) = true then
   some 1
  else
   some 0
noncomputable def impl_less (a0 : Qr) (a1 : Qr) : Option Bool :=
 (impl_compare a0 a1).bind fun v1 =>
 some (decide (v1 < 0))
noncomputable def impl_floorDivide (a0 : Int) (a1 : Int) : Option Int :=
 (guardO (a1 ≠ 0)).bind fun u1 =>
 if (decide ((Int.tmod a0 a1) < 0)) = true then
  some (w64 ((w64 (Int.tdiv a0 a1)) - 1))
 else
  some (w64 (Int.tdiv a0 a1))
noncomputable def impl_floor (a0 : Qr) : Option Int :=
 (impl_floorDivide a0.1 a0.2).bind fun v1 =>
 some v1
noncomputable def impl_negated (a0 : Qr) : Option Qr :=
 some ((w64 (0 - a0.1)), a0.2)
noncomputable def impl_areRats_k1  (x1 : Unit) : Option Bool :=
 some true
noncomputable def impl_areRats_b1 (a0 : (List Qr)) (x2 : Int) : Option (Int ⊕ (Bool ⊕ Unit)) :=
 if (decide (x2 < (a0.length : Int))) = true then
  (idxO a0 x2).bind fun v5 =>
  (impl_isRat v5).bind fun v6 =>
  if (!v6) = true then
   some (.inr (.inl false))
  else
   some (.inl (w64 (x2 + 1)))
 else
  some (.inr (.inr ()))
noncomputable def impl_areRats (a0 : (List Qr)) : Option Bool :=
 (loopO (impl_areRats_b1 a0) 0).bind fun y3 => (Sum.elim (fun p => some p) (fun p => impl_areRats_k1 p)) y3
noncomputable def impl_lowest_k1 (a0 : Int) (a1 : Int) (x2 : Int) : Option (Qr × Bool) :=
 (guardO (x2 ≠ 0)).bind fun u3 =>
 (impl_isRat ((w64 (Int.tdiv a0 x2)), (w64 (Int.tdiv a1 x2)))).bind fun v4 =>
 if (!v4) = true then
  some ((0, 0), false)
 else
  some (((w64 (Int.tdiv a0 x2)), (w64 (Int.tdiv a1 x2))), true)
noncomputable def impl_lowest (a0 : Int) (a1 : Int) : Option (Qr × Bool) :=
 (impl_greatestDivisor a0 a1).bind fun v1 =>
 if (decide (a1 < 0)) = true then
  impl_lowest_k1 a0 a1 (w64 (0 - v1))
 else
  impl_lowest_k1 a0 a1 v1
noncomputable def impl_AddRats (a0 : Qr) (a1 : Qr) : Option (Qr × Bool) :=
 (impl_areRats ([a0, a1])).bind fun v1 =>
 if (!v1) = true then
  some ((0, 0), false)
 else
  (impl_lowest (w64 ((w64 (a0.1 * a1.2)) + (w64 (a1.1 * a0.2)))) (w64 (a0.2 * a1.2))).bind fun v3 =>
  some v3
noncomputable def impl_SubtractRats (a0 : Qr) (a1 : Qr) : Option (Qr × Bool) :=
 (impl_negated a1).bind fun v1 =>
 (impl_AddRats a0 v1).bind fun v2 =>
 some v2
noncomputable def laws_eqRat (a0 : Qr) (a1 : Qr) : Option Bool :=
 if (a0.1 != a1.1) = true then
  some false
 else
  if (a0.2 != a1.2) = true then
   some false
  else
   some true
noncomputable def impl_emptyGraph_k1  (x2 : (List (List Int))) : Option (List (List Int)) :=
 some x2
noncomputable def impl_emptyGraph_b1 (a0 : Int) (x3 : ((List (List Int)) × Int)) : Option (((List (List Int)) × Int) ⊕ (List (List Int))) :=
 if (decide (x3.2 < ((List.replicate (Int.toNat a0) ([] : (List Int))).length : Int))) = true then
  (idxO x3.1 x3.2).bind fun v6 =>
  some (.inl ((x3.1.set (Int.toNat x3.2) (List.replicate (Int.toNat a0) (0 : Int))), (w64 (x3.2 + 1))))
 else
  some (.inr x3.1)
noncomputable def impl_emptyGraph (a0 : Int) : Option (List (List Int)) :=
 (guardO (0 ≤ a0 ∧ a0 ≤ 1099511627776)).bind fun u1 =>
 (loopO (impl_emptyGraph_b1 a0) ((List.replicate (Int.toNat a0) ([] : (List Int))), 0)).bind fun y4 => impl_emptyGraph_k1 y4
noncomputable def impl_powerUpTo_k2  (x3 : (List (List Int))) : Option (List (List Int)) :=
 some x3
noncomputable def impl_powerUpTo_k3 (x4 : ((List (List Int)) × Int)) (x7 : (List (List Int))) : Option (((List (List Int)) × Int) ⊕ (List (List Int))) :=
 some (.inl (x7, (w64 (x4.2 + 1))))
noncomputable def impl_powerUpTo_k4 (x4 : ((List (List Int)) × Int)) (x9 : (List (List Int))) : Option (((List (List Int)) × Int) ⊕ (List (List Int))) :=
 impl_powerUpTo_k3 x4 x9
noncomputable def impl_powerUpTo_k5 (x10 : ((List (List Int)) × Int)) (x13 : (List (List Int))) : Option (((List (List Int)) × Int) ⊕ (List (List Int))) :=
 some (.inl (x13, (w64 (x10.2 + 1))))
noncomputable def impl_powerUpTo_k6 (x15 : ((List (List Int)) × Int)) (x18 : (List (List Int))) : Option (((List (List Int)) × Int) ⊕ (List (List Int))) :=
 some (.inl (x18, (w64 (x15.2 + 1))))
noncomputable def impl_powerUpTo_b4 (a2 : Int) (x10 : ((List (List Int)) × Int)) (v19 : Int) (v20 : (List Int)) (x21 : ((List (List Int)) × Int)) : Option (((List (List Int)) × Int) ⊕ (List (List Int))) :=
 if (decide (x21.2 < (v20.length : Int))) = true then
  (idxO v20 x21.2).bind fun v24 =>
  (idxO x21.1 x10.2).bind fun v25 =>
  (idxO v25 x21.2).bind fun v26 =>
  some (.inl ((x21.1.set (Int.toNat x10.2) (v25.set (Int.toNat x21.2) (if a2 < (w64 (v26 + (w64 (v19 * v24)))) then a2 else (w64 (v26 + (w64 (v19 * v24))))))), (w64 (x21.2 + 1))))
 else
  some (.inr x21.1)
noncomputable def impl_powerUpTo_b3 (a0 : (List (List Int))) (a2 : Int) (x10 : ((List (List Int)) × Int)) (v14 : (List Int)) (x15 : ((List (List Int)) × Int)) : Option (((List (List Int)) × Int) ⊕ (List (List Int))) :=
 if (decide (x15.2 < (v14.length : Int))) = true then
  (idxO v14 x15.2).bind fun v19 =>
  (idxO a0 x15.2).bind fun v20 =>
  (loopO (impl_powerUpTo_b4 a2 x10 v19 v20) (x15.1, 0)).bind fun y22 => impl_powerUpTo_k6 x15 y22
 else
  some (.inr x15.1)
noncomputable def impl_powerUpTo_b2 (a0 : (List (List Int))) (a2 : Int) (x4 : ((List (List Int)) × Int)) (x10 : ((List (List Int)) × Int)) : Option (((List (List Int)) × Int) ⊕ (List (List Int))) :=
 if (decide (x10.2 < (x4.1.length : Int))) = true then
  (idxO x4.1 x10.2).bind fun v14 =>
  (loopO (impl_powerUpTo_b3 a0 a2 x10 v14) (x10.1, 0)).bind fun y16 => impl_powerUpTo_k5 x10 y16
 else
  some (.inr x10.1)
noncomputable def impl_powerUpTo_b1 (a0 : (List (List Int))) (a1 : Int) (a2 : Int) (x4 : ((List (List Int)) × Int)) : Option (((List (List Int)) × Int) ⊕ (List (List Int))) :=
 if (decide (x4.2 < a1)) = true then
  (impl_emptyGraph (a0.length : Int)).bind fun v8 =>
  (loopO (impl_powerUpTo_b2 a0 a2 x4) (v8, 0)).bind fun y11 => impl_powerUpTo_k4 x4 y11
 else
  some (.inr x4.1)
noncomputable def impl_powerUpTo_k1 (a0 : (List (List Int))) (a1 : Int) (a2 : Int) (x2 : (List (List Int))) : Option (List (List Int)) :=
 (loopO (impl_powerUpTo_b1 a0 a1 a2) (x2, 0)).bind fun y5 => impl_powerUpTo_k2 y5
noncomputable def impl_powerUpTo_b5 (v1 : (List (List Int))) (x27 : ((List (List Int)) × Int)) : Option (((List (List Int)) × Int) ⊕ (List (List Int))) :=
 if (decide (x27.2 < (v1.length : Int))) = true then
  (idxO x27.1 x27.2).bind fun v30 =>
  (idxO v30 x27.2).bind fun v31 =>
  some (.inl ((x27.1.set (Int.toNat x27.2) (v30.set (Int.toNat x27.2) 1)), (w64 (x27.2 + 1))))
 else
  some (.inr x27.1)
noncomputable def impl_powerUpTo (a0 : (List (List Int))) (a1 : Int) (a2 : Int) : Option (List (List Int)) :=
 (impl_emptyGraph (a0.length : Int)).bind fun v1 =>
 (loopO (impl_powerUpTo_b5 v1) (v1, 0)).bind fun y28 => impl_powerUpTo_k1 a0 a1 a2 y28
noncomputable def math_bits_Mul64 (a0 : Int) (a1 : Int) : Option Qr :=
 some ((IntKind.wrap .u64 ((IntKind.wrap .u64 ((IntKind.wrap .u64 ((ishr .u64 a0 32) * (ishr .u64 a1 32))) + (ishr .u64 (IntKind.wrap .u64 ((IntKind.wrap .u64 ((ishr .u64 a0 32) * (iand .u64 a1 4294967295))) + (ishr .u64 (IntKind.wrap .u64 ((iand .u64 a0 4294967295) * (iand .u64 a1 4294967295))) 32))) 32))) + (ishr .u64 (IntKind.wrap .u64 ((iand .u64 (IntKind.wrap .u64 ((IntKind.wrap .u64 ((ishr .u64 a0 32) * (iand .u64 a1 4294967295))) + (ishr .u64 (IntKind.wrap .u64 ((iand .u64 a0 4294967295) * (iand .u64 a1 4294967295))) 32))) 4294967295) + (IntKind.wrap .u64 ((iand .u64 a0 4294967295) * (ishr .u64 a1 32))))) 32))), (IntKind.wrap .u64 (a0 * a1)))
noncomputable def math_bits_Mul (a0 : Int) (a1 : Int) : Option Qr :=
 (math_bits_Mul64 a0 a1).bind fun v2 =>
 some v2
noncomputable def impl_moebius_k1  (x1 : Int) : Option Int :=
 some x1
noncomputable def impl_moebius_b1  (x2 : (Int × Int × Int)) : Option ((Int × Int × Int) ⊕ (Int ⊕ Int)) :=
 if (decide (x2.2.2 ≤ x2.1)) = true then
  (guardO (x2.2.2 ≠ 0)).bind fun u5 =>
  if ((Int.tmod x2.1 x2.2.2) == 0) = true then
   if ((Int.tmod (w64 (Int.tdiv x2.1 x2.2.2)) x2.2.2) == 0) = true then
    some (.inr (.inl 0))
   else
    some (.inl ((w64 (Int.tdiv x2.1 x2.2.2)), (w64 (0 - x2.2.1)), (w64 (x2.2.2 + 1))))
  else
   some (.inl (x2.1, x2.2.1, (w64 (x2.2.2 + 1))))
 else
  some (.inr (.inr x2.2.1))
noncomputable def impl_moebius (a0 : Int) : Option Int :=
 (loopO impl_moebius_b1 (a0, 1, 2)).bind fun y3 => (Sum.elim (fun p => some p) (fun p => impl_moebius_k1 p)) y3
noncomputable def spec_l1Sign (a0 : Int) : Option Int :=
 if (decide (a0 > 0)) = true then
  some 1
 else
  if (decide (a0 < 0)) = true then
   some (-1)
  else
   some 0
noncomputable def spec_raCmp (a0 : Qr) (a1 : Qr) : Option Int :=
 (spec_l1Sign (w64 ((w64 (a0.1 * a1.2)) - (w64 (a1.1 * a0.2))))).bind fun v1 =>
 some v1
noncomputable def spec_raMake_k1 (a0 : Int) (a1 : Int) (x5 : Int) : Option (Qr × Bool) :=
 (guardO (x5 ≠ 0)).bind fun u6 =>
 (spec_raGood ((w64 (Int.tdiv a0 x5)), (w64 (Int.tdiv a1 x5)))).bind fun v7 =>
 if (!v7) = true then
  some ((0, 0), false)
 else
  some (((w64 (Int.tdiv a0 x5)), (w64 (Int.tdiv a1 x5))), true)
noncomputable def spec_raMake (a0 : Int) (a1 : Int) : Option (Qr × Bool) :=
 if (a1 == 0) = true then
  some ((0, 0), false)
 else
  (spec_l1Abs a0).bind fun v2 =>
  (spec_l1Abs a1).bind fun v3 =>
  (spec_raCommon v2 v3).bind fun v4 =>
  if (decide (a1 < 0)) = true then
   spec_raMake_k1 a0 a1 (w64 (0 - v4))
  else
   spec_raMake_k1 a0 a1 v4
noncomputable def laws_szPointS (a0 : (List Qp)) (a1 : Int) : Option Int :=
 if (decide ((w64 (a1 - (a0.length : Int))) < 0)) = true then
  some (-1)
 else
  some (w64 (a1 - (a0.length : Int)))
noncomputable def laws_toPoint (a0 : Qp) : Option Qp :=
 (laws_toRat a0.1).bind fun v1 =>
 (laws_toRat a0.2).bind fun v2 =>
 some (v1, v2)
noncomputable def laws_toPointS_k1  (x2 : (List Qp)) : Option (List Qp) :=
 some x2
noncomputable def laws_toPointS_b1 (a0 : (List Qp)) (x3 : ((List Qp) × Int)) : Option (((List Qp) × Int) ⊕ (List Qp)) :=
 if (decide (x3.2 < (a0.length : Int))) = true then
  (idxO a0 x3.2).bind fun v6 =>
  (laws_toPoint v6).bind fun v7 =>
  (idxO x3.1 x3.2).bind fun v8 =>
  some (.inl ((x3.1.set (Int.toNat x3.2) v7), (w64 (x3.2 + 1))))
 else
  some (.inr x3.1)
noncomputable def laws_toPointS (a0 : (List Qp)) : Option (List Qp) :=
 (guardO (0 ≤ (a0.length : Int) ∧ (a0.length : Int) ≤ 1099511627776)).bind fun u1 =>
 (loopO (laws_toPointS_b1 a0) ((List.replicate (Int.toNat (a0.length : Int)) ((0, 0), (0, 0))), 0)).bind fun y4 => laws_toPointS_k1 y4
noncomputable def laws_eqPoint (a0 : Qp) (a1 : Qp) : Option Bool :=
 (laws_eqRat a0.1 a1.1).bind fun v1 =>
 if (!v1) = true then
  some false
 else
  (laws_eqRat a0.2 a1.2).bind fun v3 =>
  if (!v3) = true then
   some false
  else
   some true
noncomputable def laws_eqPointS_k1  (x2 : Unit) : Option Bool :=
 some true
noncomputable def laws_eqPointS_b1 (a0 : (List Qp)) (a1 : (List Qp)) (x3 : Int) : Option (Int ⊕ (Bool ⊕ Unit)) :=
 if (decide (x3 < (a0.length : Int))) = true then
  (idxO a0 x3).bind fun v6 =>
  (idxO a1 x3).bind fun v7 =>
  (laws_eqPoint v6 v7).bind fun v8 =>
  if (!v8) = true then
   some (.inr (.inl false))
  else
   some (.inl (w64 (x3 + 1)))
 else
  some (.inr (.inr ()))
noncomputable def laws_eqPointS (a0 : (List Qp)) (a1 : (List Qp)) : Option Bool :=
 if ((a0.length : Int) != (a1.length : Int)) = true then
  some false
 else
  (loopO (laws_eqPointS_b1 a0 a1) 0).bind fun y4 => (Sum.elim (fun p => some p) (fun p => laws_eqPointS_k1 p)) y4
noncomputable def spec_raInt (a0 : Int) : Option Qr :=
 some (a0, 1)
noncomputable def spec_raUnit (a0 : Qr) : Option Bool :=
 (spec_raGood a0).bind fun v1 =>
 (if v1 = true then
   (spec_l1In a0.1 0 a0.2).bind fun v2 =>
   some v2
  else
   some false).bind fun w3 =>
 some w3
noncomputable def spec_imCoord (a0 : Qr) : Option Bool :=
 (spec_raUnit a0).bind fun v1 =>
 some (v1 && (decide (a0.2 ≤ 100)))
noncomputable def spec_imPiece_k1  (x1 : Int) : Option Int :=
 some x1
noncomputable def spec_imPiece_b1 (a0 : (List Qp)) (a1 : Qr) (x2 : Int) : Option (Int ⊕ Int) :=
 (if (decide ((w64 (x2 + 2)) < (a0.length : Int))) = true then
   (idxO a0 (w64 (x2 + 1))).bind fun v4 =>
   (spec_raCmp v4.1 a1).bind fun v5 =>
   some (decide (v5 < 0))
  else
   some false).bind fun w6 =>
 if w6 = true then
  some (.inl (w64 (x2 + 1)))
 else
  some (.inr x2)
noncomputable def spec_imPiece (a0 : (List Qp)) (a1 : Qr) : Option Int :=
 (loopO (spec_imPiece_b1 a0 a1) 0).bind fun y3 => spec_imPiece_k1 y3
noncomputable def spec_raSub (a0 : Qr) (a1 : Qr) : Option (Qr × Bool) :=
 (spec_raMake (w64 ((w64 (a0.1 * a1.2)) - (w64 (a1.1 * a0.2)))) (w64 (a0.2 * a1.2))).bind fun v1 =>
 some v1
noncomputable def spec_raDiv (a0 : Qr) (a1 : Qr) : Option (Qr × Bool) :=
 if (a1.1 == 0) = true then
  some ((0, 0), false)
 else
  (spec_raMake (w64 (a0.1 * a1.2)) (w64 (a0.2 * a1.1))).bind fun v2 =>
  some v2
noncomputable def spec_imSlope (a0 : Qp) (a1 : Qp) : Option Qr :=
 (spec_raSub a1.2 a0.2).bind fun v1 =>
 (spec_raSub a1.1 a0.1).bind fun v2 =>
 (spec_raDiv v1.1 v2.1).bind fun v3 =>
 some v3.1
noncomputable def spec_raMul (a0 : Qr) (a1 : Qr) : Option (Qr × Bool) :=
 (spec_raMake (w64 (a0.1 * a1.1)) (w64 (a0.2 * a1.2))).bind fun v1 =>
 some v1
noncomputable def spec_raAdd (a0 : Qr) (a1 : Qr) : Option (Qr × Bool) :=
 (spec_raMake (w64 ((w64 (a0.1 * a1.2)) + (w64 (a1.1 * a0.2)))) (w64 (a0.2 * a1.2))).bind fun v1 =>
 some v1
noncomputable def spec_imOn (a0 : Qp) (a1 : Qp) (a2 : Qr) : Option (Qr × Bool) :=
 (spec_raSub a2 a0.1).bind fun v1 =>
 (spec_imSlope a0 a1).bind fun v2 =>
 (spec_raMul v1.1 v2).bind fun v3 =>
 if ((!v1.2) || (!v3.2)) = true then
  some ((0, 0), false)
 else
  (spec_raAdd a0.2 v3.1).bind fun v5 =>
  some v5
noncomputable def spec_imAt (a0 : (List Qp)) (a1 : Qr) : Option (Qr × Bool) :=
 (spec_imPiece a0 a1).bind fun v1 =>
 (idxO a0 v1).bind fun v2 =>
 (idxO a0 (w64 (v1 + 1))).bind fun v3 =>
 (spec_imOn v2 v3 a1).bind fun v4 =>
 some v4
noncomputable def impl_zero  : Option Qr :=
 some (0, 1)
noncomputable def impl_oneRat  : Option Qr :=
 some (1, 1)
noncomputable def slices_IndexFunc_Limpl_Point_impl_Point_k1  (x1 : Unit) : Option Int :=
 some (-1)
noncomputable def slices_IndexFunc_Limpl_Point_impl_Point_b1 (a0 : (List Qp)) (a1 : Qp → Option Bool) (x2 : Int) : Option (Int ⊕ (Int ⊕ Unit)) :=
 if (decide (x2 < (a0.length : Int))) = true then
  (idxO a0 x2).bind fun v5 =>
  (a1 v5).bind fun v6 =>
  if v6 = true then
   some (.inr (.inl x2))
  else
   some (.inl (w64 (x2 + 1)))
 else
  some (.inr (.inr ()))
noncomputable def slices_IndexFunc_Limpl_Point_impl_Point (a0 : (List Qp)) (a1 : (Qp → Option Bool)) : Option Int :=
 (loopO (slices_IndexFunc_Limpl_Point_impl_Point_b1 a0 a1) 0).bind fun y3 => (Sum.elim (fun p => some p) (fun p => slices_IndexFunc_Limpl_Point_impl_Point_k1 p)) y3
noncomputable def slices_ContainsFunc_Limpl_Point_impl_Point (a0 : (List Qp)) (a1 : (Qp → Option Bool)) : Option Bool :=
 (slices_IndexFunc_Limpl_Point_impl_Point a0 a1).bind fun v1 =>
 some (decide (v1 ≥ 0))
noncomputable def impl_isUnit (a0 : Qr) : Option Bool :=
 (impl_isRat a0).bind fun v1 =>
 some (v1 && ((decide (a0.1 ≥ 0)) && (decide (a0.1 ≤ a0.2))))
noncomputable def impl_isCoord (a0 : Qr) : Option Bool :=
 (impl_isUnit a0).bind fun v1 =>
 some (v1 && (decide (a0.2 ≤ 100)))
noncomputable def impl_calc_keep (a0 : Bool) (a1 : Qr) (a2 : Bool) : Option (Qr × Bool) :=
 if (!a2) = true then
  (impl_zero).bind fun v2 =>
  some (v2, true)
 else
  some (a1, a0)
noncomputable def impl_calc_sub (a0 : Bool) (a1 : Qr) (a2 : Qr) : Option (Qr × Bool) :=
 (impl_SubtractRats a1 a2).bind fun v1 =>
 (impl_calc_keep a0 v1.1 v1.2).bind fun v2 =>
 some v2
noncomputable def impl_pieceAt_1 (a0 : Qp) (c0 : Qr) : Option Bool :=
 (impl_less a0.1 c0).bind fun v1 =>
 some (!v1)
noncomputable def impl_pieceAt (a0 : (List Qp)) (a1 : Qr) : Option Int :=
 (slices_IndexFunc_Limpl_Point_impl_Point a0 (fun x0 => impl_pieceAt_1 x0 a1)).bind fun v1 =>
 some (if (w64 (v1 - 1)) < 0 then 0 else (w64 (v1 - 1)))
noncomputable def impl_DivideRats (a0 : Qr) (a1 : Qr) : Option (Qr × Bool) :=
 (impl_areRats ([a0, a1])).bind fun v1 =>
 if ((!v1) || (a1.1 == 0)) = true then
  some ((0, 0), false)
 else
  (impl_lowest (w64 (a0.1 * a1.2)) (w64 (a0.2 * a1.1))).bind fun v3 =>
  some v3
noncomputable def impl_calc_div (a0 : Bool) (a1 : Qr) (a2 : Qr) : Option (Qr × Bool) :=
 (impl_DivideRats a1 a2).bind fun v1 =>
 (impl_calc_keep a0 v1.1 v1.2).bind fun v2 =>
 some v2
noncomputable def impl_calc_slope (a0 : Bool) (a1 : Qp) (a2 : Qp) : Option (Qr × Bool) :=
 (impl_calc_sub a0 a2.2 a1.2).bind fun v1 =>
 (impl_calc_sub v1.2 a2.1 a1.1).bind fun v2 =>
 (impl_calc_div v2.2 v1.1 v2.1).bind fun v3 =>
 some v3
noncomputable def impl_MultiplyRats (a0 : Qr) (a1 : Qr) : Option (Qr × Bool) :=
 (impl_areRats ([a0, a1])).bind fun v1 =>
 if (!v1) = true then
  some ((0, 0), false)
 else
  (impl_lowest (w64 (a0.1 * a1.1)) (w64 (a0.2 * a1.2))).bind fun v3 =>
  some v3
noncomputable def impl_calc_mul (a0 : Bool) (a1 : Qr) (a2 : Qr) : Option (Qr × Bool) :=
 (impl_MultiplyRats a1 a2).bind fun v1 =>
 (impl_calc_keep a0 v1.1 v1.2).bind fun v2 =>
 some v2
noncomputable def impl_calc_add (a0 : Bool) (a1 : Qr) (a2 : Qr) : Option (Qr × Bool) :=
 (impl_AddRats a1 a2).bind fun v1 =>
 (impl_calc_keep a0 v1.1 v1.2).bind fun v2 =>
 some v2
noncomputable def impl_calc_line (a0 : Bool) (a1 : Qp) (a2 : Qr) (a3 : Qr) : Option (Qr × Bool) :=
 (impl_calc_sub a0 a3 a1.1).bind fun v1 =>
 (impl_calc_mul v1.2 a2 v1.1).bind fun v2 =>
 (impl_calc_add v2.2 a1.2 v2.1).bind fun v3 =>
 some v3
noncomputable def impl_calc_value (a0 : Bool) (a1 : (List Qp)) (a2 : Qr) : Option (Qr × Bool) :=
 (impl_pieceAt a1 a2).bind fun v1 =>
 (idxO a1 v1).bind fun v2 =>
 (idxO a1 (w64 (v1 + 1))).bind fun v3 =>
 (impl_calc_slope a0 v2 v3).bind fun v4 =>
 (impl_calc_line v4.2 v2 v4.1 a2).bind fun v5 =>
 some v5
noncomputable def spec_imGood_k1 (a0 : (List Qp)) (x3 : Unit) : Option Bool :=
 (idxO a0 0).bind fun v4 =>
 (spec_raInt 0).bind fun v5 =>
 (spec_raCmp v4.1 v5).bind fun v6 =>
 (if (v6 == 0) = true then
   (idxO a0 (w64 ((a0.length : Int) - 1))).bind fun v7 =>
   (spec_raInt 1).bind fun v8 =>
   (spec_raCmp v7.1 v8).bind fun v9 =>
   some (v9 == 0)
  else
   some false).bind fun w10 =>
 some w10
noncomputable def spec_imGood_b1 (a0 : (List Qp)) (x11 : Int) : Option (Int ⊕ (Bool ⊕ Unit)) :=
 if (decide (x11 < (a0.length : Int))) = true then
  (idxO a0 x11).bind fun v14 =>
  (spec_imCoord v14.1).bind fun v15 =>
  (if (!v15) = true then
    some true
   else
    (spec_imCoord v14.2).bind fun v16 =>
    if (!v16) = true then
     some true
    else
     if (decide (x11 > 0)) = true then
      (idxO a0 (w64 (x11 - 1))).bind fun v17 =>
      (spec_raCmp v17.1 v14.1).bind fun v18 =>
      some (decide (v18 ≥ 0))
     else
      some false).bind fun w19 =>
  if w19 = true then
   some (.inr (.inl false))
  else
   some (.inl (w64 (x11 + 1)))
 else
  some (.inr (.inr ()))
noncomputable def spec_imGood (a0 : (List Qp)) : Option Bool :=
 (spec_l1In (a0.length : Int) 2 12).bind fun v1 =>
 if (!v1) = true then
  some false
 else
  (loopO (spec_imGood_b1 a0) 0).bind fun y12 => (Sum.elim (fun p => some p) (fun p => spec_imGood_k1 a0 p)) y12
noncomputable def impl_isMap_1 (a0 : Qp) : Option Bool :=
 (impl_isCoord a0.1).bind fun v1 =>
 (if (!v1) = true then
   some true
  else
   (impl_isCoord a0.2).bind fun v2 =>
   some (!v2)).bind fun w3 =>
 some w3
noncomputable def impl_xsOf_k1  (x1 : (List Qr)) : Option (List Qr) :=
 some x1
noncomputable def impl_xsOf_b1 (a0 : (List Qp)) (x2 : ((List Qr) × Int)) : Option (((List Qr) × Int) ⊕ (List Qr)) :=
 if (decide (x2.2 < (a0.length : Int))) = true then
  (idxO a0 x2.2).bind fun v5 =>
  (guardO (x2.1.length + ([v5.1]).length ≤ 1099511627776)).bind fun u6 =>
  some (.inl ((x2.1 ++ [v5.1]), (w64 (x2.2 + 1))))
 else
  some (.inr x2.1)
noncomputable def impl_xsOf (a0 : (List Qp)) : Option (List Qr) :=
 (loopO (impl_xsOf_b1 a0) ([], 0)).bind fun y3 => impl_xsOf_k1 y3
noncomputable def impl_isRising_k1  (x1 : Unit) : Option Bool :=
 some true
noncomputable def impl_isRising_b1 (a0 : (List Qr)) (x2 : Int) : Option (Int ⊕ (Bool ⊕ Unit)) :=
 if (decide (x2 < (a0.length : Int))) = true then
  (idxO a0 (w64 (x2 - 1))).bind fun v5 =>
  (idxO a0 x2).bind fun v6 =>
  (impl_less v5 v6).bind fun v7 =>
  if (!v7) = true then
   some (.inr (.inl false))
  else
   some (.inl (w64 (x2 + 1)))
 else
  some (.inr (.inr ()))
noncomputable def impl_isRising (a0 : (List Qr)) : Option Bool :=
 (loopO (impl_isRising_b1 a0) 1).bind fun y3 => (Sum.elim (fun p => some p) (fun p => impl_isRising_k1 p)) y3
noncomputable def impl_isMap (a0 : (List Qp)) : Option Bool :=
 (impl_within (a0.length : Int) 2 12).bind fun v1 =>
 (if (!v1) = true then
   some true
  else
   (slices_ContainsFunc_Limpl_Point_impl_Point a0 (fun x0 => impl_isMap_1 x0)).bind fun v2 =>
   some v2).bind fun w3 =>
 if w3 = true then
  some false
 else
  (idxO a0 0).bind fun v5 =>
  (impl_zero).bind fun v6 =>
  (if ((v5.1.1 == v6.1) && (v5.1.2 == v6.2)) = true then
    (idxO a0 (w64 ((a0.length : Int) - 1))).bind fun v7 =>
    (impl_oneRat).bind fun v8 =>
    if ((v7.1.1 == v8.1) && (v7.1.2 == v8.2)) = true then
     (impl_xsOf a0).bind fun v9 =>
     (impl_isRising v9).bind fun v10 =>
     some v10
    else
     some false
   else
    some false).bind fun w11 =>
  some w11
noncomputable def slices_IndexFunc_Limpl_Rat_impl_Rat_k1  (x1 : Unit) : Option Int :=
 some (-1)
noncomputable def slices_IndexFunc_Limpl_Rat_impl_Rat_b1 (a0 : (List Qr)) (a1 : Qr → Option Bool) (x2 : Int) : Option (Int ⊕ (Int ⊕ Unit)) :=
 if (decide (x2 < (a0.length : Int))) = true then
  (idxO a0 x2).bind fun v5 =>
  (a1 v5).bind fun v6 =>
  if v6 = true then
   some (.inr (.inl x2))
  else
   some (.inl (w64 (x2 + 1)))
 else
  some (.inr (.inr ()))
noncomputable def slices_IndexFunc_Limpl_Rat_impl_Rat (a0 : (List Qr)) (a1 : (Qr → Option Bool)) : Option Int :=
 (loopO (slices_IndexFunc_Limpl_Rat_impl_Rat_b1 a0 a1) 0).bind fun y3 => (Sum.elim (fun p => some p) (fun p => slices_IndexFunc_Limpl_Rat_impl_Rat_k1 p)) y3
noncomputable def slices_ContainsFunc_Limpl_Rat_impl_Rat (a0 : (List Qr)) (a1 : (Qr → Option Bool)) : Option Bool :=
 (slices_IndexFunc_Limpl_Rat_impl_Rat a0 a1).bind fun v1 =>
 some (decide (v1 ≥ 0))
noncomputable def laws_eqInterval (a0 : Qp) (a1 : Qp) : Option Bool :=
 (laws_eqRat a0.1 a1.1).bind fun v1 =>
 if (!v1) = true then
  some false
 else
  (laws_eqRat a0.2 a1.2).bind fun v3 =>
  if (!v3) = true then
   some false
  else
   some true
noncomputable def laws_eqIntervalS_k1  (x2 : Unit) : Option Bool :=
 some true
noncomputable def laws_eqIntervalS_b1 (a0 : (List Qp)) (a1 : (List Qp)) (x3 : Int) : Option (Int ⊕ (Bool ⊕ Unit)) :=
 if (decide (x3 < (a0.length : Int))) = true then
  (idxO a0 x3).bind fun v6 =>
  (idxO a1 x3).bind fun v7 =>
  (laws_eqInterval v6 v7).bind fun v8 =>
  if (!v8) = true then
   some (.inr (.inl false))
  else
   some (.inl (w64 (x3 + 1)))
 else
  some (.inr (.inr ()))
noncomputable def laws_eqIntervalS (a0 : (List Qp)) (a1 : (List Qp)) : Option Bool :=
 if ((a0.length : Int) != (a1.length : Int)) = true then
  some false
 else
  (loopO (laws_eqIntervalS_b1 a0 a1) 0).bind fun y4 => (Sum.elim (fun p => some p) (fun p => laws_eqIntervalS_k1 p)) y4
noncomputable def impl_lesser (a0 : Qr) (a1 : Qr) : Option Qr :=
 (impl_less a1 a0).bind fun v1 =>
 if v1 = true then
  some a1
 else
  some a0
noncomputable def impl_greater (a0 : Qr) (a1 : Qr) : Option Qr :=
 (impl_less a0 a1).bind fun v1 =>
 if v1 = true then
  some a1
 else
  some a0
noncomputable def slices_IndexFunc_Limpl_Interval_impl_Interval_k1  (x1 : Unit) : Option Int :=
 some (-1)
noncomputable def slices_IndexFunc_Limpl_Interval_impl_Interval_b1 (a0 : (List Qp)) (a1 : Qp → Option Bool) (x2 : Int) : Option (Int ⊕ (Int ⊕ Unit)) :=
 if (decide (x2 < (a0.length : Int))) = true then
  (idxO a0 x2).bind fun v5 =>
  (a1 v5).bind fun v6 =>
  if v6 = true then
   some (.inr (.inl x2))
  else
   some (.inl (w64 (x2 + 1)))
 else
  some (.inr (.inr ()))
noncomputable def slices_IndexFunc_Limpl_Interval_impl_Interval (a0 : (List Qp)) (a1 : (Qp → Option Bool)) : Option Int :=
 (loopO (slices_IndexFunc_Limpl_Interval_impl_Interval_b1 a0 a1) 0).bind fun y3 => (Sum.elim (fun p => some p) (fun p => slices_IndexFunc_Limpl_Interval_impl_Interval_k1 p)) y3
noncomputable def slices_ContainsFunc_Limpl_Interval_impl_Interval (a0 : (List Qp)) (a1 : (Qp → Option Bool)) : Option Bool :=
 (slices_IndexFunc_Limpl_Interval_impl_Interval a0 a1).bind fun v1 =>
 some (decide (v1 ≥ 0))
noncomputable def impl_areUnits_1 (a0 : Qr) : Option Bool :=
 (impl_isUnit a0).bind fun v1 =>
 some (!v1)
noncomputable def impl_areUnits (a0 : (List Qr)) : Option Bool :=
 (slices_ContainsFunc_Limpl_Rat_impl_Rat a0 (fun x0 => impl_areUnits_1 x0)).bind fun v1 =>
 some (!v1)
noncomputable def impl_isInterval (a0 : Qp) : Option Bool :=
 (impl_areUnits ([a0.1, a0.2])).bind fun v1 =>
 (if v1 = true then
   (impl_less a0.1 a0.2).bind fun v2 =>
   some v2
  else
   some false).bind fun w3 =>
 some w3
noncomputable def impl_areIntervals_1 (a0 : Qp) : Option Bool :=
 (impl_isInterval a0).bind fun v1 =>
 some (!v1)
noncomputable def impl_areIntervals (a0 : (List Qp)) : Option Bool :=
 (impl_within (a0.length : Int) 1 8).bind fun v1 =>
 (if v1 = true then
   (slices_ContainsFunc_Limpl_Interval_impl_Interval a0 (fun x0 => impl_areIntervals_1 x0)).bind fun v2 =>
   some (!v2)
  else
   some false).bind fun w3 =>
 some w3
noncomputable def impl_calc_image_1 (a0 : Qr) (a1 : Qr) (a2 : Qr) : Option Qp :=
 (impl_lesser a1 a0).bind fun v1 =>
 (impl_greater a2 a0).bind fun v2 =>
 some (v1, v2)
noncomputable def impl_calc_image_k1 (v2 : (Qr × Bool)) (x4 : (Int × Int × Int × Int)) : Option (Qr × Qr × Bool) :=
 some ((x4.1, x4.2.1), x4.2.2, v2.2)
noncomputable def impl_calc_image_b1 (a1 : (List Qp)) (a2 : Qr) (a3 : Qr) (x5 : (Int × Int × Int × Int × Int)) : Option ((Int × Int × Int × Int × Int) ⊕ (Int × Int × Int × Int)) :=
 if (decide (x5.2.2.2.2 < (a1.length : Int))) = true then
  (idxO a1 x5.2.2.2.2).bind fun v8 =>
  (impl_less a2 v8.1).bind fun v9 =>
  (if v9 = true then
    (impl_less v8.1 a3).bind fun v10 =>
    some v10
   else
    some false).bind fun w11 =>
  if w11 = true then
   (impl_calc_image_1 v8.2 (x5.1, x5.2.1) (x5.2.2.1, x5.2.2.2.1)).bind fun v13 =>
   some (.inl (v13.1.1, v13.1.2, v13.2.1, v13.2.2, (w64 (x5.2.2.2.2 + 1))))
  else
   some (.inl (x5.1, x5.2.1, x5.2.2.1, x5.2.2.2.1, (w64 (x5.2.2.2.2 + 1))))
 else
  some (.inr (x5.1, x5.2.1, x5.2.2.1, x5.2.2.2.1))
noncomputable def impl_calc_image (a0 : Bool) (a1 : (List Qp)) (a2 : Qr) (a3 : Qr) : Option (Qr × Qr × Bool) :=
 (impl_calc_value a0 a1 a2).bind fun v1 =>
 (impl_calc_value v1.2 a1 a3).bind fun v2 =>
 (impl_calc_image_1 v2.1 v1.1 v1.1).bind fun v3 =>
 (loopO (impl_calc_image_b1 a1 a2 a3) (v3.1.1, v3.1.2, v3.2.1, v3.2.2, 0)).bind fun y6 => impl_calc_image_k1 v2 y6
noncomputable def impl_calc_covers (a0 : Bool) (a1 : (List Qp)) (a2 : Qp) (a3 : Qp) : Option (Bool × Bool) :=
 (impl_calc_image a0 a1 a2.1 a2.2).bind fun v1 =>
 (impl_less a3.1 v1.1).bind fun v2 =>
 (if (!v2) = true then
   (impl_less v1.2.1 a3.2).bind fun v3 =>
   some (!v3)
  else
   some false).bind fun w4 =>
 some (w4, v1.2.2)
noncomputable def spec_ivGood (a0 : Qp) : Option Bool :=
 (spec_raUnit a0.1).bind fun v1 =>
 (if v1 = true then
   (spec_raUnit a0.2).bind fun v2 =>
   if v2 = true then
    (spec_raCmp a0.1 a0.2).bind fun v3 =>
    some (decide (v3 < 0))
   else
    some false
  else
   some false).bind fun w4 =>
 some w4
noncomputable def spec_ivList_k1 (a0 : (List Qp)) (x1 : Unit) : Option Bool :=
 (spec_l1In (a0.length : Int) 1 8).bind fun v2 =>
 some v2
noncomputable def spec_ivList_b1 (a0 : (List Qp)) (x3 : Int) : Option (Int ⊕ (Bool ⊕ Unit)) :=
 if (decide (x3 < (a0.length : Int))) = true then
  (idxO a0 x3).bind fun v6 =>
  (spec_ivGood v6).bind fun v7 =>
  if (!v7) = true then
   some (.inr (.inl false))
  else
   some (.inl (w64 (x3 + 1)))
 else
  some (.inr (.inr ()))
noncomputable def spec_ivList (a0 : (List Qp)) : Option Bool :=
 (loopO (spec_ivList_b1 a0) 0).bind fun y4 => (Sum.elim (fun p => some p) (fun p => spec_ivList_k1 a0 p)) y4
noncomputable def spec_chAsked (a0 : (List Qp)) (a1 : (List Qp)) : Option Bool :=
 (spec_imGood a0).bind fun v1 =>
 (if v1 = true then
   (spec_ivList a1).bind fun v2 =>
   some v2
  else
   some false).bind fun w3 =>
 some w3
noncomputable def spec_imImage_k2  (x5 : (Int × Int × Int × Int)) : Option (Qr × Qr × Bool) :=
 some ((x5.1, x5.2.1), x5.2.2, true)
noncomputable def spec_imImage_k3 (x6 : (Int × Int × Int × Int × Int)) (v9 : Qr) (x10 : Qr) : Option ((Int × Int × Int × Int × Int) ⊕ (Int × Int × Int × Int)) :=
 (spec_raCmp (x6.2.2.1, x6.2.2.2.1) v9).bind fun v11 =>
 if (decide (v11 < 0)) = true then
  some (.inl (x10.1, x10.2, v9.1, v9.2, (w64 (x6.2.2.2.2 + 1))))
 else
  some (.inl (x10.1, x10.2, x6.2.2.1, x6.2.2.2.1, (w64 (x6.2.2.2.2 + 1))))
noncomputable def spec_imImage_b1 (x4 : (List Qr)) (x6 : (Int × Int × Int × Int × Int)) : Option ((Int × Int × Int × Int × Int) ⊕ (Int × Int × Int × Int)) :=
 if (decide (x6.2.2.2.2 < (x4.length : Int))) = true then
  (idxO x4 x6.2.2.2.2).bind fun v9 =>
  (spec_raCmp v9 (x6.1, x6.2.1)).bind fun v13 =>
  if (decide (v13 < 0)) = true then
   spec_imImage_k3 x6 v9 v9
  else
   spec_imImage_k3 x6 v9 (x6.1, x6.2.1)
 else
  some (.inr (x6.1, x6.2.1, x6.2.2.1, x6.2.2.2.1))
noncomputable def spec_imImage_k1 (v1 : (Qr × Bool)) (x4 : (List Qr)) : Option (Qr × Qr × Bool) :=
 (loopO (spec_imImage_b1 x4) (v1.1.1, v1.1.2, v1.1.1, v1.1.2, 0)).bind fun y7 => spec_imImage_k2 y7
noncomputable def spec_imImage_b2 (a0 : (List Qp)) (a1 : Qr) (a2 : Qr) (x15 : ((List Qr) × Int)) : Option (((List Qr) × Int) ⊕ (List Qr)) :=
 if (decide (x15.2 < (a0.length : Int))) = true then
  (idxO a0 x15.2).bind fun v18 =>
  (spec_raCmp a1 v18.1).bind fun v19 =>
  (if (decide (v19 < 0)) = true then
    (spec_raCmp v18.1 a2).bind fun v20 =>
    some (decide (v20 < 0))
   else
    some false).bind fun w21 =>
  if w21 = true then
   (guardO (x15.1.length + ([v18.2]).length ≤ 1099511627776)).bind fun u23 =>
   some (.inl ((x15.1 ++ [v18.2]), (w64 (x15.2 + 1))))
  else
   some (.inl (x15.1, (w64 (x15.2 + 1))))
 else
  some (.inr x15.1)
noncomputable def spec_imImage (a0 : (List Qp)) (a1 : Qr) (a2 : Qr) : Option (Qr × Qr × Bool) :=
 (spec_imAt a0 a1).bind fun v1 =>
 (spec_imAt a0 a2).bind fun v2 =>
 if ((!v1.2) || (!v2.2)) = true then
  some ((0, 0), (0, 0), false)
 else
  (loopO (spec_imImage_b2 a0 a1 a2) ([v2.1], 0)).bind fun y16 => spec_imImage_k1 v1 y16
noncomputable def spec_ivCovers (a0 : (List Qp)) (a1 : Qp) (a2 : Qp) : Option (Bool × Bool) :=
 (spec_imImage a0 a1.1 a1.2).bind fun v1 =>
 if (!v1.2.2) = true then
  some (false, false)
 else
  (spec_raCmp v1.1 a2.1).bind fun v3 =>
  (if (decide (v3 ≤ 0)) = true then
    (spec_raCmp a2.2 v1.2.1).bind fun v4 =>
    some (decide (v4 ≤ 0))
   else
    some false).bind fun w5 =>
  some (w5, true)
noncomputable def impl_CoverGraph_k1  (x6 : (Bool × (List (List Int)))) : Option ((List (List Int)) × Bool) :=
 if x6.1 = true then
  some ([], false)
 else
  some (x6.2, true)
noncomputable def impl_CoverGraph_k2 (x8 : (Bool × (List (List Int)) × Int)) (x11 : (Bool × (List (List Int)))) : Option ((Bool × (List (List Int)) × Int) ⊕ (Bool × (List (List Int)))) :=
 some (.inl (x11.1, x11.2, (w64 (x8.2.2 + 1))))
noncomputable def impl_CoverGraph_b2 (a0 : (List Qp)) (a1 : (List Qp)) (x8 : (Bool × (List (List Int)) × Int)) (v12 : Qp) (x13 : (Bool × (List (List Int)) × Int)) : Option ((Bool × (List (List Int)) × Int) ⊕ (Bool × (List (List Int)))) :=
 if (decide (x13.2.2 < (a1.length : Int))) = true then
  (idxO a1 x13.2.2).bind fun v16 =>
  (impl_calc_covers x13.1 a0 v12 v16).bind fun v17 =>
  if v17.1 = true then
   (idxO x13.2.1 x8.2.2).bind fun v19 =>
   (idxO v19 x13.2.2).bind fun v20 =>
   some (.inl (v17.2, (x13.2.1.set (Int.toNat x8.2.2) (v19.set (Int.toNat x13.2.2) 1)), (w64 (x13.2.2 + 1))))
  else
   some (.inl (v17.2, x13.2.1, (w64 (x13.2.2 + 1))))
 else
  some (.inr (x13.1, x13.2.1))
noncomputable def impl_CoverGraph_b1 (a0 : (List Qp)) (a1 : (List Qp)) (x8 : (Bool × (List (List Int)) × Int)) : Option ((Bool × (List (List Int)) × Int) ⊕ (Bool × (List (List Int)))) :=
 if (decide (x8.2.2 < (a1.length : Int))) = true then
  (idxO a1 x8.2.2).bind fun v12 =>
  (loopO (impl_CoverGraph_b2 a0 a1 x8 v12) (x8.1, x8.2.1, 0)).bind fun y14 => impl_CoverGraph_k2 x8 y14
 else
  some (.inr (x8.1, x8.2.1))
noncomputable def impl_CoverGraph (a0 : (List Qp)) (a1 : (List Qp)) : Option ((List (List Int)) × Bool) :=
 (impl_isMap a0).bind fun v1 =>
 (if (!v1) = true then
   some true
  else
   (impl_areIntervals a1).bind fun v2 =>
   some (!v2)).bind fun w3 =>
 if w3 = true then
  some ([], false)
 else
  (impl_emptyGraph (a1.length : Int)).bind fun v5 =>
  (loopO (impl_CoverGraph_b1 a0 a1) (false, v5, 0)).bind fun y9 => impl_CoverGraph_k1 y9
noncomputable def impl_loopCount_k1 (a1 : Int) (x1 : Int) : Option Int :=
 (guardO (a1 ≠ 0)).bind fun u2 =>
 some (w64 (Int.tdiv x1 a1))
noncomputable def impl_loopCount_k2 (x3 : Qr) (x6 : Int) : Option (Qr ⊕ Int) :=
 some (.inl (x6, (w64 (x3.2 + 1))))
noncomputable def impl_loopCount_b2 (a1 : Int) (x3 : Qr) (v9 : (List (List Int))) (x10 : Qr) : Option (Qr ⊕ Int) :=
 if (decide (x10.2 < (v9.length : Int))) = true then
  (idxO v9 x10.2).bind fun v13 =>
  (impl_moebius (w64 (Int.tdiv a1 x3.2))).bind fun v14 =>
  (idxO v13 x10.2).bind fun v15 =>
  some (.inl ((w64 (x10.1 + (w64 (v14 * v15)))), (w64 (x10.2 + 1))))
 else
  some (.inr x10.1)
noncomputable def impl_loopCount_b1 (a0 : (List (List Int))) (a1 : Int) (x3 : Qr) : Option (Qr ⊕ Int) :=
 if (decide (x3.2 ≤ a1)) = true then
  (guardO (x3.2 ≠ 0)).bind fun u7 =>
  if ((Int.tmod a1 x3.2) == 0) = true then
   (impl_powerUpTo a0 x3.2 1000000000000000000).bind fun v9 =>
   (loopO (impl_loopCount_b2 a1 x3 v9) (x3.1, 0)).bind fun y11 => impl_loopCount_k2 x3 y11
  else
   impl_loopCount_k2 x3 x3.1
 else
  some (.inr x3.1)
noncomputable def impl_loopCount (a0 : (List (List Int))) (a1 : Int) : Option Int :=
 (loopO (impl_loopCount_b1 a0 a1) (0, 1)).bind fun y4 => impl_loopCount_k1 a1 y4
noncomputable def impl_CountLoops (a0 : (List Qp)) (a1 : (List Qp)) (a2 : Int) : Option (Int × Bool) :=
 (impl_CoverGraph a0 a1).bind fun v1 =>
 (if (!v1.2) = true then
   some true
  else
   (impl_within a2 1 12).bind fun v2 =>
   some (!v2)).bind fun w3 =>
 if w3 = true then
  some (0, false)
 else
  (impl_loopCount v1.1 a2).bind fun v5 =>
  some (v5, true)
noncomputable def spec_foLength (a0 : Int) : Option Bool :=
 (spec_l1In a0 1 12).bind fun v1 =>
 some v1
noncomputable def spec_CoverGraph_k1  (x5 : (List (List Int))) : Option ((List (List Int)) × Bool) :=
 some (x5, true)
noncomputable def spec_CoverGraph_k2 (x6 : ((List (List Int)) × Int)) (x9 : (List (List Int))) : Option (((List (List Int)) × Int) ⊕ (((List (List Int)) × Bool) ⊕ (List (List Int)))) :=
 some (.inl (x9, (w64 (x6.2 + 1))))
noncomputable def spec_CoverGraph_k3 (x6 : ((List (List Int)) × Int)) (x11 : (List Int)) : Option (((List (List Int)) × Int) ⊕ (((List (List Int)) × Bool) ⊕ (List (List Int)))) :=
 (guardO (x6.1.length + ([x11]).length ≤ 1099511627776)).bind fun u12 =>
 spec_CoverGraph_k2 x6 (x6.1 ++ [x11])
noncomputable def spec_CoverGraph_k4 (x13 : ((List Int) × Int)) (x19 : Int) : Option (((List Int) × Int) ⊕ (((List (List Int)) × Bool) ⊕ (List Int))) :=
 (guardO (x13.1.length + ([x19]).length ≤ 1099511627776)).bind fun u20 =>
 some (.inl ((x13.1 ++ [x19]), (w64 (x13.2 + 1))))
noncomputable def spec_CoverGraph_b2 (a0 : (List Qp)) (a1 : (List Qp)) (v10 : Qp) (x13 : ((List Int) × Int)) : Option (((List Int) × Int) ⊕ (((List (List Int)) × Bool) ⊕ (List Int))) :=
 if (decide (x13.2 < (a1.length : Int))) = true then
  (idxO a1 x13.2).bind fun v16 =>
  (spec_ivCovers a0 v10 v16).bind fun v17 =>
  if (!v17.2) = true then
   some (.inr (.inl ([], false)))
  else
   if v17.1 = true then
    spec_CoverGraph_k4 x13 1
   else
    spec_CoverGraph_k4 x13 0
 else
  some (.inr (.inr x13.1))
noncomputable def spec_CoverGraph_b1 (a0 : (List Qp)) (a1 : (List Qp)) (x6 : ((List (List Int)) × Int)) : Option (((List (List Int)) × Int) ⊕ (((List (List Int)) × Bool) ⊕ (List (List Int)))) :=
 if (decide (x6.2 < (a1.length : Int))) = true then
  (idxO a1 x6.2).bind fun v10 =>
  (loopO (spec_CoverGraph_b2 a0 a1 v10) ([], 0)).bind fun y14 => (Sum.elim (fun p => some (.inr (.inl p))) (fun p => spec_CoverGraph_k3 x6 p)) y14
 else
  some (.inr (.inr x6.1))
noncomputable def spec_CoverGraph (a0 : (List Qp)) (a1 : (List Qp)) : Option ((List (List Int)) × Bool) :=
 (spec_imGood a0).bind fun v1 =>
 (if (!v1) = true then
   some true
  else
   (spec_ivList a1).bind fun v2 =>
   some (!v2)).bind fun w3 =>
 if w3 = true then
  some ([], false)
 else
  (loopO (spec_CoverGraph_b1 a0 a1) ([], 0)).bind fun y7 => (Sum.elim (fun p => some p) (fun p => spec_CoverGraph_k1 p)) y7
noncomputable def spec_foClosed_k1  (x1 : Int) : Option Int :=
 some x1
noncomputable def spec_foClosed_k2 (x2 : Qr) (x5 : Int) : Option (Qr ⊕ Int) :=
 some (.inl (x5, (w64 (x2.2 + 1))))
noncomputable def spec_foClosed_k3 (x2 : Qr) (x8 : (List Int)) : Option (Qr ⊕ Int) :=
 (idxO x8 x2.2).bind fun v9 =>
 spec_foClosed_k2 x2 (w64 (x2.1 + v9))
noncomputable def spec_foClosed_k4 (x10 : ((List Int) × Int)) (x13 : (List Int)) : Option (((List Int) × Int) ⊕ (List Int)) :=
 some (.inl (x13, (w64 (x10.2 + 1))))
noncomputable def spec_foClosed_k5 (x10 : ((List Int) × Int)) (x14 : (List Int)) : Option (((List Int) × Int) ⊕ (List Int)) :=
 spec_foClosed_k4 x10 x14
noncomputable def spec_foClosed_k6 (x15 : ((List Int) × Int)) (x18 : (List Int)) : Option (((List Int) × Int) ⊕ (List Int)) :=
 some (.inl (x18, (w64 (x15.2 + 1))))
noncomputable def spec_foClosed_b4 (v19 : Int) (v20 : (List Int)) (x21 : ((List Int) × Int)) : Option (((List Int) × Int) ⊕ (List Int)) :=
 if (decide (x21.2 < (v20.length : Int))) = true then
  (idxO v20 x21.2).bind fun v24 =>
  (idxO x21.1 x21.2).bind fun v25 =>
  some (.inl ((x21.1.set (Int.toNat x21.2) (w64 (v25 + (w64 (v19 * v24))))), (w64 (x21.2 + 1))))
 else
  some (.inr x21.1)
noncomputable def spec_foClosed_b3 (a0 : (List (List Int))) (x10 : ((List Int) × Int)) (x15 : ((List Int) × Int)) : Option (((List Int) × Int) ⊕ (List Int)) :=
 if (decide (x15.2 < (x10.1.length : Int))) = true then
  (idxO x10.1 x15.2).bind fun v19 =>
  (idxO a0 x15.2).bind fun v20 =>
  (loopO (spec_foClosed_b4 v19 v20) (x15.1, 0)).bind fun y22 => spec_foClosed_k6 x15 y22
 else
  some (.inr x15.1)
noncomputable def spec_foClosed_b2 (a0 : (List (List Int))) (a1 : Int) (x10 : ((List Int) × Int)) : Option (((List Int) × Int) ⊕ (List Int)) :=
 if (decide (x10.2 < a1)) = true then
  (loopO (spec_foClosed_b3 a0 x10) ((List.replicate (Int.toNat (a0.length : Int)) (0 : Int)), 0)).bind fun y16 => spec_foClosed_k5 x10 y16
 else
  some (.inr x10.1)
noncomputable def spec_foClosed_b1 (a0 : (List (List Int))) (a1 : Int) (x2 : Qr) : Option (Qr ⊕ Int) :=
 if (decide (x2.2 < (a0.length : Int))) = true then
  (guardO (0 ≤ (a0.length : Int) ∧ (a0.length : Int) ≤ 1099511627776)).bind fun u6 =>
  (idxO (List.replicate (Int.toNat (a0.length : Int)) (0 : Int)) x2.2).bind fun v7 =>
  (loopO (spec_foClosed_b2 a0 a1) (((List.replicate (Int.toNat (a0.length : Int)) (0 : Int)).set (Int.toNat x2.2) 1), 0)).bind fun y11 => spec_foClosed_k3 x2 y11
 else
  some (.inr x2.1)
noncomputable def spec_foClosed (a0 : (List (List Int))) (a1 : Int) : Option Int :=
 (loopO (spec_foClosed_b1 a0 a1) (0, 0)).bind fun y3 => spec_foClosed_k1 y3
noncomputable def spec_foLoops_r_k1 (a1 : Int) (x2 : Int) : Option Int :=
 (guardO (a1 ≠ 0)).bind fun u3 =>
 some (w64 (Int.tdiv x2 a1))
noncomputable def spec_foLoops_r_b1 (rc : ((List (List Int)) → Int → Option Int)) (a0 : (List (List Int))) (a1 : Int) (x4 : Qr) : Option (Qr ⊕ Int) :=
 if (decide (x4.2 < a1)) = true then
  (guardO (x4.2 ≠ 0)).bind fun u7 =>
  if ((Int.tmod a1 x4.2) == 0) = true then
   (rc a0 x4.2).bind fun v9 =>
   some (.inl ((w64 (x4.1 - (w64 (x4.2 * v9)))), (w64 (x4.2 + 1))))
  else
   some (.inl (x4.1, (w64 (x4.2 + 1))))
 else
  some (.inr x4.1)
noncomputable def spec_foLoops_r (rc : ((List (List Int)) → Int → Option Int)) (a0 : (List (List Int))) (a1 : Int) : Option Int :=
 (spec_foClosed a0 a1).bind fun v1 =>
 (loopO (spec_foLoops_r_b1 rc a0 a1) (v1, 1)).bind fun y5 => spec_foLoops_r_k1 a1 y5
noncomputable def spec_foLoops_f : Nat → (List (List Int)) → Int → Option Int
 | 0, _, _ => none
 | k + 1, a0, a1 => spec_foLoops_r (spec_foLoops_f k) a0 a1
noncomputable def spec_foLoops (a0 : (List (List Int))) (a1 : Int) : Option Int := fuelO fun k => spec_foLoops_f k a0 a1
noncomputable def spec_CountLoops (a0 : (List Qp)) (a1 : (List Qp)) (a2 : Int) : Option (Int × Bool) :=
 (spec_chAsked a0 a1).bind fun v1 =>
 (if (!v1) = true then
   some true
  else
   (spec_foLength a2).bind fun v2 =>
   some (!v2)).bind fun w3 =>
 if w3 = true then
  some (0, false)
 else
  (spec_CoverGraph a0 a1).bind fun v5 =>
  if (!v5.2) = true then
   some (0, false)
  else
   (spec_foLoops v5.1 a2).bind fun v7 =>
   some (v7, true)
noncomputable def laws_szIntervalS (a0 : (List Qp)) (a1 : Int) : Option Int :=
 if (decide ((w64 (a1 - (a0.length : Int))) < 0)) = true then
  some (-1)
 else
  some (w64 (a1 - (a0.length : Int)))
noncomputable def laws_toInterval (a0 : Qp) : Option Qp :=
 (laws_toRat a0.1).bind fun v1 =>
 (laws_toRat a0.2).bind fun v2 =>
 some (v1, v2)
noncomputable def laws_toIntervalS_k1  (x2 : (List Qp)) : Option (List Qp) :=
 some x2
noncomputable def laws_toIntervalS_b1 (a0 : (List Qp)) (x3 : ((List Qp) × Int)) : Option (((List Qp) × Int) ⊕ (List Qp)) :=
 if (decide (x3.2 < (a0.length : Int))) = true then
  (idxO a0 x3.2).bind fun v6 =>
  (laws_toInterval v6).bind fun v7 =>
  (idxO x3.1 x3.2).bind fun v8 =>
  some (.inl ((x3.1.set (Int.toNat x3.2) v7), (w64 (x3.2 + 1))))
 else
  some (.inr x3.1)
noncomputable def laws_toIntervalS (a0 : (List Qp)) : Option (List Qp) :=
 (guardO (0 ≤ (a0.length : Int) ∧ (a0.length : Int) ≤ 1099511627776)).bind fun u1 =>
 (loopO (laws_toIntervalS_b1 a0) ((List.replicate (Int.toNat (a0.length : Int)) ((0, 0), (0, 0))), 0)).bind fun y4 => laws_toIntervalS_k1 y4
noncomputable def laws_FnExactCountLoops (a0 : (List Qp)) (a1 : (List Qp)) (a2 : Int) : Option Bool :=
 (laws_szPointS a0 1048576).bind fun v1 =>
 if (decide (v1 < 0)) = true then
  some true
 else
  (laws_szIntervalS a1 v1).bind fun v3 =>
  if (decide (v3 < 0)) = true then
   some true
  else
   (laws_toPointS a0).bind fun v5 =>
   (laws_toIntervalS a1).bind fun v6 =>
   (spec_CountLoops v5 v6 a2).bind fun v7 =>
   (laws_toPointS a0).bind fun v8 =>
   (laws_toIntervalS a1).bind fun v9 =>
   (impl_CountLoops v8 v9 a2).bind fun v10 =>
   if ((v10.1 != v7.1) || (!(v10.2 == v7.2))) = true then
    some false
   else
    (laws_toPointS a0).bind fun v12 =>
    (laws_eqPointS v8 v12).bind fun v13 =>
    if (!v13) = true then
     some false
    else
     (laws_toIntervalS a1).bind fun v15 =>
     (laws_eqIntervalS v9 v15).bind fun v16 =>
     if (!v16) = true then
      some false
     else
      some true
end Go.PV
