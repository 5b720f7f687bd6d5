/-
  Plain definitions of what the functions answer.
  Conditions: none.
-/
import Derived.Test.YtlajjggemadajaaPvCx
set_option linter.all false
namespace Go.PV
noncomputable def spec_l1In (a0 : Int) (a1 : Int) (a2 : Int) : Option Bool :=
 some ((decide (a0 ≥ a1)) && (decide (a0 ≤ a2)))
noncomputable def impl_within (a0 : Int) (a1 : Int) (a2 : Int) : Option Bool :=
 some ((decide (a1 ≤ a0)) && (decide (a0 ≤ a2)))
noncomputable def laws_toRat (a0 : Qr) : Option Qr :=
 some a0
noncomputable def spec_l1Most (a0 : Int) (a1 : Int) : Option Int :=
 if (decide (a0 > a1)) = true then
  some a0
 else
  some a1
noncomputable def spec_l1Abs (a0 : Int) : Option Int :=
 (spec_l1Most a0 (w64 (0 - a0))).bind fun v1 =>
 some v1
noncomputable def spec_raCommon_k1  (x1 : Int) : Option Int :=
 some x1
noncomputable def spec_raCommon_b1  (x2 : Qr) : Option (Qr ⊕ Int) :=
 if (decide (x2.2 > 0)) = true then
  (guardO (x2.2 ≠ 0)).bind fun u5 =>
  some (.inl (x2.2, (Int.tmod x2.1 x2.2)))
 else
  some (.inr x2.1)
noncomputable def spec_raCommon (a0 : Int) (a1 : Int) : Option Int :=
 (loopO spec_raCommon_b1 (a0, a1)).bind fun y3 => spec_raCommon_k1 y3
noncomputable def spec_raGood (a0 : Qr) : Option Bool :=
 (spec_l1In a0.2 1 1000000000).bind fun v1 =>
 (if v1 = true then
   (spec_l1In a0.1 (-1000000000) 1000000000).bind fun v2 =>
   if v2 = true then
    (spec_l1Abs a0.1).bind fun v3 =>
    (spec_raCommon v3 a0.2).bind fun v4 =>
    some (v4 == 1)
   else
    some false
  else
   some false).bind fun w5 =>
 some w5
noncomputable def spec_raDown (a0 : Int) (a1 : Int) : Option Int :=
 if (a1 == 0) = true then
  some 0
 else
  (guardO (a1 ≠ 0)).bind fun u2 =>
  if (decide ((Int.tmod a0 a1) < 0)) = true then
   some (w64 ((w64 (Int.tdiv a0 a1)) - 1))
  else
   some (w64 (Int.tdiv a0 a1))
noncomputable def spec_raFloor (a0 : Qr) : Option Int :=
 (spec_raDown a0.1 a0.2).bind fun v1 =>
 some v1
noncomputable def spec_liPlus (a0 : Qr) (a1 : Int) : Option Qr :=
 some ((w64 (a0.1 + (w64 (a1 * a0.2)))), a0.2)
noncomputable def impl_abs (a0 : Int) : Option Int :=
 if (decide (a0 < 0)) = true then
  some (w64 (0 - a0))
 else
  some a0
noncomputable def impl_greatestDivisor_k1  (x3 : Int) : Option Int :=
 some x3
noncomputable def impl_greatestDivisor_b1  (x4 : Qr) : Option (Qr ⊕ Int) :=
 if (x4.2 != 0) = true then
  (guardO (x4.2 ≠ 0)).bind fun u7 =>
  some (.inl (x4.2, (Int.tmod x4.1 x4.2)))
 else
  some (.inr x4.1)
noncomputable def impl_greatestDivisor (a0 : Int) (a1 : Int) : Option Int :=
 (impl_abs a0).bind fun v1 =>
 (impl_abs a1).bind fun v2 =>
 (loopO impl_greatestDivisor_b1 (v1, v2)).bind fun y5 => impl_greatestDivisor_k1 y5
noncomputable def impl_isRat (a0 : Qr) : Option Bool :=
 (impl_within a0.2 1 1000000000).bind fun v1 =>
 (if v1 = true then
   (impl_within a0.1 (-1000000000) 1000000000).bind fun v2 =>
   if v2 = true then
    (impl_greatestDivisor a0.1 a0.2).bind fun v3 =>
    some (v3 == 1)
   else
    some false
  else
   some false).bind fun w4 =>
 some w4
noncomputable def impl_whole (a0 : Int) : Option Qr :=
 some (a0, 1)
noncomputable def impl_compare (a0 : Qr) (a1 : Qr) : Option Int :=
 if (decide ((w64 (a0.1 * a1.2)) < (w64 (a1.1 * a0.2)))) = true then
  some (-1)
 else
  if (decide ((w64 (a0.1 * a1.2)) > (w64 (a1.1 * a0.2)))) = true then
   some 1
  else
   some 0
noncomputable def impl_less (a0 : Qr) (a1 : Qr) : Option Bool :=
 (impl_compare a0 a1).bind fun v1 =>
 some (decide (v1 < 0))
noncomputable def impl_floorDivide (a0 : Int) (a1 : Int) : Option Int :=
 (guardO (a1 ≠ 0)).bind fun u1 =>
 if (decide ((Int.tmod a0 a1) < 0)) = true then
  some (w64 ((w64 (Int.tdiv a0 a1)) - 1))
 else
  some (w64 (Int.tdiv a0 a1))
noncomputable def impl_floor (a0 : Qr) : Option Int :=
 (impl_floorDivide a0.1 a0.2).bind fun v1 =>
 some v1
noncomputable def laws_eqRat (a0 : Qr) (a1 : Qr) : Option Bool :=
 if (a0.1 != a1.1) = true then
  some false
 else
  if (a0.2 != a1.2) = true then
   some false
  else
   some true
noncomputable def spec_l1Sign (a0 : Int) : Option Int :=
 if (decide (a0 > 0)) = true then
  some 1
 else
  if (decide (a0 < 0)) = true then
   some (-1)
  else
   some 0
noncomputable def spec_raCmp (a0 : Qr) (a1 : Qr) : Option Int :=
 (spec_l1Sign (w64 ((w64 (a0.1 * a1.2)) - (w64 (a1.1 * a0.2))))).bind fun v1 =>
 some v1
noncomputable def spec_raInt (a0 : Int) : Option Qr :=
 some (a0, 1)
noncomputable def spec_raUnit (a0 : Qr) : Option Bool :=
 (spec_raGood a0).bind fun v1 =>
 (if v1 = true then
   (spec_l1In a0.1 0 a0.2).bind fun v2 =>
   some v2
  else
   some false).bind fun w3 =>
 some w3
noncomputable def spec_imCoord (a0 : Qr) : Option Bool :=
 (spec_raUnit a0).bind fun v1 =>
 some (v1 && (decide (a0.2 ≤ 100)))
noncomputable def spec_liGood_k1 (a0 : (List Qp)) (x3 : Unit) : Option Bool :=
 (idxO a0 0).bind fun v4 =>
 (idxO a0 (w64 ((a0.length : Int) - 1))).bind fun v5 =>
 (spec_raInt 0).bind fun v6 =>
 (spec_raCmp v4.1 v6).bind fun v7 =>
 (if (v7 == 0) = true then
   (spec_raInt 1).bind fun v8 =>
   (spec_raCmp v5.1 v8).bind fun v9 =>
   if (v9 == 0) = true then
    (spec_liPlus v4.2 1).bind fun v10 =>
    some ((v5.2.1 == v10.1) && (v5.2.2 == v10.2))
   else
    some false
  else
   some false).bind fun w11 =>
 some w11
noncomputable def spec_liGood_b1 (a0 : (List Qp)) (x12 : Int) : Option (Int ⊕ (Bool ⊕ Unit)) :=
 if (decide (x12 < (a0.length : Int))) = true then
  (idxO a0 x12).bind fun v15 =>
  (spec_imCoord v15.1).bind fun v16 =>
  (if (!v16) = true then
    some true
   else
    (spec_raGood v15.2).bind fun v17 =>
    if (!v17) = true then
     some true
    else
     if (decide (v15.2.2 > 100)) = true then
      some true
     else
      (spec_l1In v15.2.1 (w64 ((-5) * v15.2.2)) (w64 (5 * v15.2.2))).bind fun v18 =>
      some (!v18)).bind fun w19 =>
  if w19 = true then
   some (.inr (.inl false))
  else
   (if (decide (x12 > 0)) = true then
     (idxO a0 (w64 (x12 - 1))).bind fun v21 =>
     (spec_raCmp v21.1 v15.1).bind fun v22 =>
     if (decide (v22 ≥ 0)) = true then
      some true
     else
      (spec_raCmp v21.2 v15.2).bind fun v23 =>
      some (decide (v23 > 0))
    else
     some false).bind fun w24 =>
   if w24 = true then
    some (.inr (.inl false))
   else
    some (.inl (w64 (x12 + 1)))
 else
  some (.inr (.inr ()))
noncomputable def spec_liGood (a0 : (List Qp)) : Option Bool :=
 (spec_l1In (a0.length : Int) 2 12).bind fun v1 =>
 if (!v1) = true then
  some false
 else
  (loopO (spec_liGood_b1 a0) 0).bind fun y13 => (Sum.elim (fun p => some p) (fun p => spec_liGood_k1 a0 p)) y13
noncomputable def slices_IndexFunc_Limpl_Point_impl_Point_k1  (x1 : Unit) : Option Int :=
 some (-1)
noncomputable def slices_IndexFunc_Limpl_Point_impl_Point_b1 (a0 : (List Qp)) (a1 : Qp → Option Bool) (x2 : Int) : Option (Int ⊕ (Int ⊕ Unit)) :=
 if (decide (x2 < (a0.length : Int))) = true then
  (idxO a0 x2).bind fun v5 =>
  (a1 v5).bind fun v6 =>
  if v6 = true then
   some (.inr (.inl x2))
  else
   some (.inl (w64 (x2 + 1)))
 else
  some (.inr (.inr ()))
noncomputable def slices_IndexFunc_Limpl_Point_impl_Point (a0 : (List Qp)) (a1 : (Qp → Option Bool)) : Option Int :=
 (loopO (slices_IndexFunc_Limpl_Point_impl_Point_b1 a0 a1) 0).bind fun y3 => (Sum.elim (fun p => some p) (fun p => slices_IndexFunc_Limpl_Point_impl_Point_k1 p)) y3
noncomputable def slices_ContainsFunc_Limpl_Point_impl_Point (a0 : (List Qp)) (a1 : (Qp → Option Bool)) : Option Bool :=
 (slices_IndexFunc_Limpl_Point_impl_Point a0 a1).bind fun v1 =>
 some (decide (v1 ≥ 0))
noncomputable def impl_isUnit (a0 : Qr) : Option Bool :=
 (impl_isRat a0).bind fun v1 =>
 some (v1 && ((decide (a0.1 ≥ 0)) && (decide (a0.1 ≤ a0.2))))
noncomputable def impl_isCoord (a0 : Qr) : Option Bool :=
 (impl_isUnit a0).bind fun v1 =>
 some (v1 && (decide (a0.2 ≤ 100)))
noncomputable def impl_isLift_1 (a0 : Qp) : Option Bool :=
 (impl_isCoord a0.1).bind fun v1 =>
 (if (!v1) = true then
   some true
  else
   (impl_isRat a0.2).bind fun v2 =>
   if (!v2) = true then
    some true
   else
    if (decide (a0.2.2 > 100)) = true then
     some true
    else
     (impl_whole (-5)).bind fun v3 =>
     (impl_less a0.2 v3).bind fun v4 =>
     if v4 = true then
      some true
     else
      (impl_whole 5).bind fun v5 =>
      (impl_less v5 a0.2).bind fun v6 =>
      some v6).bind fun w7 =>
 some w7
noncomputable def impl_zero  : Option Qr :=
 some (0, 1)
noncomputable def impl_oneRat  : Option Qr :=
 some (1, 1)
noncomputable def impl_isLift_k1 (a0 : (List Qp)) (x5 : Unit) : Option Bool :=
 (idxO a0 0).bind fun v6 =>
 (idxO a0 (w64 ((a0.length : Int) - 1))).bind fun v7 =>
 (impl_zero).bind fun v8 =>
 (if ((v6.1.1 == v8.1) && (v6.1.2 == v8.2)) = true then
   (impl_oneRat).bind fun v9 =>
   if ((v7.1.1 == v9.1) && (v7.1.2 == v9.2)) = true then
    some ((v7.2.1 == (w64 (v6.2.1 + v6.2.2))) && (v7.2.2 == v6.2.2))
   else
    some false
  else
   some false).bind fun w10 =>
 some w10
noncomputable def impl_isLift_b1 (a0 : (List Qp)) (x11 : Int) : Option (Int ⊕ (Bool ⊕ Unit)) :=
 if (decide (x11 < (a0.length : Int))) = true then
  (idxO a0 (w64 (x11 - 1))).bind fun v14 =>
  (idxO a0 x11).bind fun v15 =>
  (impl_less v14.1 v15.1).bind fun v16 =>
  (if (!v16) = true then
    some true
   else
    (impl_less v15.2 v14.2).bind fun v17 =>
    some v17).bind fun w18 =>
  if w18 = true then
   some (.inr (.inl false))
  else
   some (.inl (w64 (x11 + 1)))
 else
  some (.inr (.inr ()))
noncomputable def impl_isLift (a0 : (List Qp)) : Option Bool :=
 (impl_within (a0.length : Int) 2 12).bind fun v1 =>
 (if (!v1) = true then
   some true
  else
   (slices_ContainsFunc_Limpl_Point_impl_Point a0 (fun x0 => impl_isLift_1 x0)).bind fun v2 =>
   some v2).bind fun w3 =>
 if w3 = true then
  some false
 else
  (loopO (impl_isLift_b1 a0) 1).bind fun y12 => (Sum.elim (fun p => some p) (fun p => impl_isLift_k1 a0 p)) y12
noncomputable def spec_liIf (a0 : (List Qp)) : Option ((List Qp) × Bool) :=
 (spec_liGood a0).bind fun v1 =>
 if (!v1) = true then
  some ([], false)
 else
  some (a0, true)
noncomputable def spec_imMirror (a0 : Qr) : Option Qr :=
 some ((w64 (a0.2 - a0.1)), a0.2)
noncomputable def laws_szPointS (a0 : (List Qp)) (a1 : Int) : Option Int :=
 if (decide ((w64 (a1 - (a0.length : Int))) < 0)) = true then
  some (-1)
 else
  some (w64 (a1 - (a0.length : Int)))
noncomputable def laws_szLift (a0 : (List Qp)) (a1 : Int) : Option Int :=
 (laws_szPointS a0 a1).bind fun v1 =>
 if (decide (v1 < 0)) = true then
  some (-1)
 else
  some v1
noncomputable def laws_toPoint (a0 : Qp) : Option Qp :=
 (laws_toRat a0.1).bind fun v1 =>
 (laws_toRat a0.2).bind fun v2 =>
 some (v1, v2)
noncomputable def laws_toPointS_k1  (x2 : (List Qp)) : Option (List Qp) :=
 some x2
noncomputable def laws_toPointS_b1 (a0 : (List Qp)) (x3 : ((List Qp) × Int)) : Option (((List Qp) × Int) ⊕ (List Qp)) :=
 if (decide (x3.2 < (a0.length : Int))) = true then
  (idxO a0 x3.2).bind fun v6 =>
  (laws_toPoint v6).bind fun v7 =>
  (idxO x3.1 x3.2).bind fun v8 =>
  some (.inl ((x3.1.set (Int.toNat x3.2) v7), (w64 (x3.2 + 1))))
 else
  some (.inr x3.1)
noncomputable def laws_toPointS (a0 : (List Qp)) : Option (List Qp) :=
 (guardO (0 ≤ (a0.length : Int) ∧ (a0.length : Int) ≤ 1099511627776)).bind fun u1 =>
 (loopO (laws_toPointS_b1 a0) ((List.replicate (Int.toNat (a0.length : Int)) ((0, 0), (0, 0))), 0)).bind fun y4 => laws_toPointS_k1 y4
noncomputable def laws_toLift (a0 : (List Qp)) : Option (List Qp) :=
 (laws_toPointS a0).bind fun v1 =>
 some v1
noncomputable def laws_eqPoint (a0 : Qp) (a1 : Qp) : Option Bool :=
 (laws_eqRat a0.1 a1.1).bind fun v1 =>
 if (!v1) = true then
  some false
 else
  (laws_eqRat a0.2 a1.2).bind fun v3 =>
  if (!v3) = true then
   some false
  else
   some true
noncomputable def laws_eqPointS_k1  (x2 : Unit) : Option Bool :=
 some true
noncomputable def laws_eqPointS_b1 (a0 : (List Qp)) (a1 : (List Qp)) (x3 : Int) : Option (Int ⊕ (Bool ⊕ Unit)) :=
 if (decide (x3 < (a0.length : Int))) = true then
  (idxO a0 x3).bind fun v6 =>
  (idxO a1 x3).bind fun v7 =>
  (laws_eqPoint v6 v7).bind fun v8 =>
  if (!v8) = true then
   some (.inr (.inl false))
  else
   some (.inl (w64 (x3 + 1)))
 else
  some (.inr (.inr ()))
noncomputable def laws_eqPointS (a0 : (List Qp)) (a1 : (List Qp)) : Option Bool :=
 if ((a0.length : Int) != (a1.length : Int)) = true then
  some false
 else
  (loopO (laws_eqPointS_b1 a0 a1) 0).bind fun y4 => (Sum.elim (fun p => some p) (fun p => laws_eqPointS_k1 p)) y4
noncomputable def laws_eqLift (a0 : (List Qp)) (a1 : (List Qp)) : Option Bool :=
 (laws_eqPointS a0 a1).bind fun v1 =>
 if (!v1) = true then
  some false
 else
  some true
noncomputable def laws_markPointS_k1  (x1 : ((List Qp) × Int)) : Option (Int × (List Qp)) :=
 some (x1.2, x1.1)
noncomputable def laws_markPointS_b1  (x2 : ((List Qp) × Int × Int)) : Option (((List Qp) × Int × Int) ⊕ ((List Qp) × Int)) :=
 if (decide (x2.2.2 < (x2.1.length : Int))) = true then
  (idxO x2.1 x2.2.2).bind fun v5 =>
  (idxO (x2.1.set (Int.toNat x2.2.2) ((x2.2.1, v5.1.2), v5.2)) x2.2.2).bind fun v6 =>
  (idxO ((x2.1.set (Int.toNat x2.2.2) ((x2.2.1, v5.1.2), v5.2)).set (Int.toNat x2.2.2) ((v6.1.1, (w64 (x2.2.1 + 1))), v6.2)) x2.2.2).bind fun v7 =>
  (idxO (((x2.1.set (Int.toNat x2.2.2) ((x2.2.1, v5.1.2), v5.2)).set (Int.toNat x2.2.2) ((v6.1.1, (w64 (x2.2.1 + 1))), v6.2)).set (Int.toNat x2.2.2) (v7.1, ((w64 ((w64 (x2.2.1 + 1)) + 1)), v7.2.2))) x2.2.2).bind fun v8 =>
  some (.inl (((((x2.1.set (Int.toNat x2.2.2) ((x2.2.1, v5.1.2), v5.2)).set (Int.toNat x2.2.2) ((v6.1.1, (w64 (x2.2.1 + 1))), v6.2)).set (Int.toNat x2.2.2) (v7.1, ((w64 ((w64 (x2.2.1 + 1)) + 1)), v7.2.2))).set (Int.toNat x2.2.2) (v8.1, (v8.2.1, (w64 ((w64 ((w64 (x2.2.1 + 1)) + 1)) + 1))))), (w64 ((w64 ((w64 ((w64 (x2.2.1 + 1)) + 1)) + 1)) + 1)), (w64 (x2.2.2 + 1))))
 else
  some (.inr (x2.1, x2.2.1))
noncomputable def laws_markPointS (a0 : (List Qp)) (a1 : Int) : Option (Int × (List Qp)) :=
 (loopO laws_markPointS_b1 (a0, a1, 0)).bind fun y3 => laws_markPointS_k1 y3
noncomputable def laws_markLift (a0 : (List Qp)) (a1 : Int) : Option (Int × (List Qp)) := laws_markPointS a0 a1
noncomputable def laws_heldPointS_k1  (x1 : Int) : Option Int :=
 some x1
noncomputable def laws_heldPointS_b1 (a0 : (List Qp)) (x2 : Qr) : Option (Qr ⊕ (Int ⊕ Int)) :=
 if (decide (x2.2 < (a0.length : Int))) = true then
  (idxO a0 x2.2).bind fun v5 =>
  if (v5.1.1 != x2.1) = true then
   some (.inr (.inl (-1)))
  else
   if (v5.1.2 != (w64 (x2.1 + 1))) = true then
    some (.inr (.inl (-1)))
   else
    if (v5.2.1 != (w64 ((w64 (x2.1 + 1)) + 1))) = true then
     some (.inr (.inl (-1)))
    else
     if (v5.2.2 != (w64 ((w64 ((w64 (x2.1 + 1)) + 1)) + 1))) = true then
      some (.inr (.inl (-1)))
     else
      some (.inl ((w64 ((w64 ((w64 ((w64 (x2.1 + 1)) + 1)) + 1)) + 1)), (w64 (x2.2 + 1))))
 else
  some (.inr (.inr x2.1))
noncomputable def laws_heldPointS (a0 : (List Qp)) (a1 : Int) : Option Int :=
 (loopO (laws_heldPointS_b1 a0) (a1, 0)).bind fun y3 => (Sum.elim (fun p => some p) (fun p => laws_heldPointS_k1 p)) y3
noncomputable def laws_heldLift (a0 : (List Qp)) (a1 : Int) : Option Int :=
 (laws_heldPointS a0 a1).bind fun v1 =>
 if (decide (v1 < 0)) = true then
  some (-1)
 else
  some v1
noncomputable def impl_opposite (a0 : Qr) : Option Qr :=
 some ((w64 (a0.2 - a0.1)), a0.2)
noncomputable def impl_ReverseLift (a0 : (List Qp)) : Option ((List Qp) × Bool) :=
 (impl_isLift a0).bind fun v1 =>
 if (!v1) = true then
  some ([], false)
 else
  (guardO (a0.length ≤ 1000000000)).bind fun u2 =>
  (impl_isLift (a0.reverse.map oppP)).bind fun v4 =>
  if (!v4) = true then
   some ([], false)
  else
   some (a0.reverse.map oppP, true)
noncomputable def spec_ReverseLift_k1  (x3 : (List Qp)) : Option ((List Qp) × Bool) :=
 (spec_liIf x3).bind fun v4 =>
 some v4
noncomputable def spec_ReverseLift_b1 (a0 : (List Qp)) (x5 : ((List Qp) × Int)) : Option (((List Qp) × Int) ⊕ (List Qp)) :=
 if (decide (x5.2 ≥ 0)) = true then
  (idxO a0 x5.2).bind fun v8 =>
  (spec_imMirror v8.1).bind fun v9 =>
  (spec_imMirror v8.2).bind fun v10 =>
  (guardO (x5.1.length + ([(v9, v10)]).length ≤ 1099511627776)).bind fun u11 =>
  some (.inl ((x5.1 ++ [(v9, v10)]), (w64 (x5.2 - 1))))
 else
  some (.inr x5.1)
noncomputable def spec_ReverseLift (a0 : (List Qp)) : Option ((List Qp) × Bool) :=
 (spec_liGood a0).bind fun v1 =>
 if (!v1) = true then
  some ([], false)
 else
  (loopO (spec_ReverseLift_b1 a0) ([], (w64 ((a0.length : Int) - 1)))).bind fun y6 => spec_ReverseLift_k1 y6
noncomputable def laws_FnExactReverseLift (a0 : (List Qp)) : Option Bool :=
 (laws_szLift a0 1048576).bind fun v1 =>
 if (decide (v1 < 0)) = true then
  some true
 else
  (laws_toLift a0).bind fun v3 =>
  (spec_ReverseLift v3).bind fun v4 =>
  (laws_toLift a0).bind fun v5 =>
  (impl_ReverseLift v5).bind fun v6 =>
  (laws_eqLift v6.1 v4.1).bind fun v7 =>
  if ((!v7) || (!(v6.2 == v4.2))) = true then
   some false
  else
   (laws_toLift a0).bind fun v9 =>
   (laws_eqLift v5 v9).bind fun v10 =>
   if (!v10) = true then
    some false
   else
    (laws_markLift v5 1).bind fun v12 =>
    (if (decide (v12.1 < 0)) = true then
      some true
     else
      (laws_eqLift v6.1 v4.1).bind fun v13 =>
      if (!v13) = true then
       some true
      else
       some (!(v6.2 == v4.2))).bind fun w14 =>
    if w14 = true then
     some false
    else
     (laws_markLift v6.1 1).bind fun v16 =>
     (laws_heldLift v16.2 1).bind fun v17 =>
     if (decide (v17 < 0)) = true then
      some false
     else
      if (v17 != v16.1) = true then
       some false
      else
       (laws_toLift a0).bind fun v20 =>
       (impl_ReverseLift v20).bind fun v21 =>
       (laws_eqLift v21.1 v4.1).bind fun v22 =>
       if ((!v22) || (!(v21.2 == v4.2))) = true then
        some false
       else
        (laws_heldLift v16.2 1).bind fun v24 =>
        if (decide (v24 < 0)) = true then
         some false
        else
         if (v24 != v16.1) = true then
          some false
         else
          some true
noncomputable def laws_heldIntervalS_k1  (x1 : Int) : Option Int :=
 some x1
noncomputable def laws_heldIntervalS_b1 (a0 : (List Qp)) (x2 : Qr) : Option (Qr ⊕ (Int ⊕ Int)) :=
 if (decide (x2.2 < (a0.length : Int))) = true then
  (idxO a0 x2.2).bind fun v5 =>
  if (v5.1.1 != x2.1) = true then
   some (.inr (.inl (-1)))
  else
   if (v5.1.2 != (w64 (x2.1 + 1))) = true then
    some (.inr (.inl (-1)))
   else
    if (v5.2.1 != (w64 ((w64 (x2.1 + 1)) + 1))) = true then
     some (.inr (.inl (-1)))
    else
     if (v5.2.2 != (w64 ((w64 ((w64 (x2.1 + 1)) + 1)) + 1))) = true then
      some (.inr (.inl (-1)))
     else
      some (.inl ((w64 ((w64 ((w64 ((w64 (x2.1 + 1)) + 1)) + 1)) + 1)), (w64 (x2.2 + 1))))
 else
  some (.inr (.inr x2.1))
noncomputable def laws_heldIntervalS (a0 : (List Qp)) (a1 : Int) : Option Int :=
 (loopO (laws_heldIntervalS_b1 a0) (a1, 0)).bind fun y3 => (Sum.elim (fun p => some p) (fun p => laws_heldIntervalS_k1 p)) y3
end Go.PV
