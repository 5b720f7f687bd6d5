/-
  Plain definitions of what the functions answer.
  Conditions: none.
-/
import Derived.Test.YtgamijfefbhklaaGreatDoorPvCx
set_option linter.all false
namespace Go.PV
noncomputable def spec_l1In (a0 : Int) (a1 : Int) (a2 : Int) : Option Bool :=
 some ((decide (a0 ≥ a1)) && (decide (a0 ≤ a2)))
noncomputable def impl_within (a0 : Int) (a1 : Int) (a2 : Int) : Option Bool :=
 some ((decide (a1 ≤ a0)) && (decide (a0 ≤ a2)))
noncomputable def spec_l1Most (a0 : Int) (a1 : Int) : Option Int :=
 if (decide (a0 > a1)) = true then
  some a0
 else
  some a1
noncomputable def spec_l1Abs (a0 : Int) : Option Int :=
 (spec_l1Most a0 (w64 (0 - a0))).bind fun v1 =>
 some v1
noncomputable def spec_raCommon_k1  (x1 : Int) : Option Int :=
 some x1
noncomputable def spec_raCommon_b1  (x2 : Qr) : Option (Qr ⊕ Int) :=
 if (decide (x2.2 > 0)) = true then
  (guardO (x2.2 ≠ 0)).bind fun u5 =>
  some (.inl (x2.2, (Int.tmod x2.1 x2.2)))
 else
  some (.inr x2.1)
noncomputable def spec_raCommon (a0 : Int) (a1 : Int) : Option Int :=
 (loopO spec_raCommon_b1 (a0, a1)).bind fun y3 => spec_raCommon_k1 y3
noncomputable def spec_raGood (a0 : Qr) : Option Bool :=
 (spec_l1In a0.2 1 1000000000).bind fun v1 =>
 (if v1 = true then
   (spec_l1In a0.1 (-1000000000) 1000000000).bind fun v2 =>
   if v2 = true then
    (spec_l1Abs a0.1).bind fun v3 =>
    (spec_raCommon v3 a0.2).bind fun v4 =>
    some (v4 == 1)
   else
    some false
  else
   some false).bind fun w5 =>
 some w5
noncomputable def spec_raDown (a0 : Int) (a1 : Int) : Option Int :=
 if (a1 == 0) = true then
  some 0
 else
  (guardO (a1 ≠ 0)).bind fun u2 =>
  if (decide ((Int.tmod a0 a1) < 0)) = true then
   some (w64 ((w64 (Int.tdiv a0 a1)) - 1))
  else
   some (w64 (Int.tdiv a0 a1))
noncomputable def spec_raFloor (a0 : Qr) : Option Int :=
 (spec_raDown a0.1 a0.2).bind fun v1 =>
 some v1
noncomputable def impl_abs (a0 : Int) : Option Int :=
 if (decide (a0 < 0)) = true then
  some (w64 (0 - a0))
 else
  some a0
noncomputable def impl_greatestDivisor_k1  (x3 : Int) : Option Int :=
 some x3
noncomputable def impl_greatestDivisor_b1  (x4 : Qr) : Option (Qr ⊕ Int) :=
 if (x4.2 != 0) = true then
  (guardO (x4.2 ≠ 0)).bind fun u7 =>
  some (.inl (x4.2, (Int.tmod x4.1 x4.2)))
 else
  some (.inr x4.1)
noncomputable def impl_greatestDivisor (a0 : Int) (a1 : Int) : Option Int :=
 (impl_abs a0).bind fun v1 =>
 (impl_abs a1).bind fun v2 =>
 (loopO impl_greatestDivisor_b1 (v1, v2)).bind fun y5 => impl_greatestDivisor_k1 y5
noncomputable def impl_isRat (a0 : Qr) : Option Bool :=
 (impl_within a0.2 1 1000000000).bind fun v1 =>
 (if v1 = true then
   (impl_within a0.1 (-1000000000) 1000000000).bind fun v2 =>
   if v2 = true then
    (impl_greatestDivisor a0.1 a0.2).bind fun v3 =>
    some (v3 == 1)
   else
    some false
  else
   some false).bind fun w4 =>
 some w4
noncomputable def impl_compare (a0 : Qr) (a1 : Qr) : Option Int :=
 if (decide ((w64 (a0.1 * a1.2)) < (w64 (a1.1 * a0.2)))) = true then
  some (-1)
 else
  if (decide ((w64 (a0.1 * a1.2)) > (w64 (a1.1 * a0.2)))) = true then
   some 1
  else
   some 0
noncomputable def impl_less (a0 : Qr) (a1 : Qr) : Option Bool :=
 (impl_compare a0 a1).bind fun v1 =>
 some (decide (v1 < 0))
noncomputable def impl_floorDivide (a0 : Int) (a1 : Int) : Option Int :=
 (guardO (a1 ≠ 0)).bind fun u1 =>
 if (decide ((Int.tmod a0 a1) < 0)) = true then
  some (w64 ((w64 (Int.tdiv a0 a1)) - 1))
 else
  some (w64 (Int.tdiv a0 a1))
noncomputable def impl_floor (a0 : Qr) : Option Int :=
 (impl_floorDivide a0.1 a0.2).bind fun v1 =>
 some v1
noncomputable def impl_negated (a0 : Qr) : Option Qr :=
 some ((w64 (0 - a0.1)), a0.2)
noncomputable def impl_areRats_k1  (x1 : Unit) : Option Bool :=
 some true
noncomputable def impl_areRats_b1 (a0 : (List Qr)) (x2 : Int) : Option (Int ⊕ (Bool ⊕ Unit)) :=
 if (decide (x2 < (a0.length : Int))) = true then
  (idxO a0 x2).bind fun v5 =>
  (impl_isRat v5).bind fun v6 =>
  if (!v6) = true then
   some (.inr (.inl false))
  else
   some (.inl (w64 (x2 + 1)))
 else
  some (.inr (.inr ()))
noncomputable def impl_areRats (a0 : (List Qr)) : Option Bool :=
 (loopO (impl_areRats_b1 a0) 0).bind fun y3 => (Sum.elim (fun p => some p) (fun p => impl_areRats_k1 p)) y3
noncomputable def impl_lowest_k1 (a0 : Int) (a1 : Int) (x2 : Int) : Option (Qr × Bool) :=
 (guardO (x2 ≠ 0)).bind fun u3 =>
 (impl_isRat ((w64 (Int.tdiv a0 x2)), (w64 (Int.tdiv a1 x2)))).bind fun v4 =>
 if (!v4) = true then
  some ((0, 0), false)
 else
  some (((w64 (Int.tdiv a0 x2)), (w64 (Int.tdiv a1 x2))), true)
noncomputable def impl_lowest (a0 : Int) (a1 : Int) : Option (Qr × Bool) :=
 (impl_greatestDivisor a0 a1).bind fun v1 =>
 if (decide (a1 < 0)) = true then
  impl_lowest_k1 a0 a1 (w64 (0 - v1))
 else
  impl_lowest_k1 a0 a1 v1
noncomputable def impl_AddRats (a0 : Qr) (a1 : Qr) : Option (Qr × Bool) :=
 (impl_areRats ([a0, a1])).bind fun v1 =>
 if (!v1) = true then
  some ((0, 0), false)
 else
  (impl_lowest (w64 ((w64 (a0.1 * a1.2)) + (w64 (a1.1 * a0.2)))) (w64 (a0.2 * a1.2))).bind fun v3 =>
  some v3
noncomputable def impl_SubtractRats (a0 : Qr) (a1 : Qr) : Option (Qr × Bool) :=
 (impl_negated a1).bind fun v1 =>
 (impl_AddRats a0 v1).bind fun v2 =>
 some v2
noncomputable def laws_eqRat (a0 : Qr) (a1 : Qr) : Option Bool :=
 if (a0.1 != a1.1) = true then
  some false
 else
  if (a0.2 != a1.2) = true then
   some false
  else
   some true
noncomputable def spec_raMake_k1 (a0 : Int) (a1 : Int) (x5 : Int) : Option (Qr × Bool) :=
 (guardO (x5 ≠ 0)).bind fun u6 =>
 (spec_raGood ((w64 (Int.tdiv a0 x5)), (w64 (Int.tdiv a1 x5)))).bind fun v7 =>
 if (!v7) = true then
  some ((0, 0), false)
 else
  some (((w64 (Int.tdiv a0 x5)), (w64 (Int.tdiv a1 x5))), true)
noncomputable def spec_raMake (a0 : Int) (a1 : Int) : Option (Qr × Bool) :=
 if (a1 == 0) = true then
  some ((0, 0), false)
 else
  (spec_l1Abs a0).bind fun v2 =>
  (spec_l1Abs a1).bind fun v3 =>
  (spec_raCommon v2 v3).bind fun v4 =>
  if (decide (a1 < 0)) = true then
   spec_raMake_k1 a0 a1 (w64 (0 - v4))
  else
   spec_raMake_k1 a0 a1 v4
noncomputable def spec_l1Sign (a0 : Int) : Option Int :=
 if (decide (a0 > 0)) = true then
  some 1
 else
  if (decide (a0 < 0)) = true then
   some (-1)
  else
   some 0
noncomputable def spec_raCmp (a0 : Qr) (a1 : Qr) : Option Int :=
 (spec_l1Sign (w64 ((w64 (a0.1 * a1.2)) - (w64 (a1.1 * a0.2))))).bind fun v1 =>
 some v1
noncomputable def spec_raAdd (a0 : Qr) (a1 : Qr) : Option (Qr × Bool) :=
 (spec_raMake (w64 ((w64 (a0.1 * a1.2)) + (w64 (a1.1 * a0.2)))) (w64 (a0.2 * a1.2))).bind fun v1 =>
 some v1
noncomputable def spec_raInt (a0 : Int) : Option Qr :=
 some (a0, 1)
noncomputable def spec_raUnit (a0 : Qr) : Option Bool :=
 (spec_raGood a0).bind fun v1 =>
 (if v1 = true then
   (spec_l1In a0.1 0 a0.2).bind fun v2 =>
   some v2
  else
   some false).bind fun w3 =>
 some w3
noncomputable def spec_imCoord (a0 : Qr) : Option Bool :=
 (spec_raUnit a0).bind fun v1 =>
 some (v1 && (decide (a0.2 ≤ 100)))
noncomputable def impl_isUnit (a0 : Qr) : Option Bool :=
 (impl_isRat a0).bind fun v1 =>
 some (v1 && ((decide (a0.1 ≥ 0)) && (decide (a0.1 ≤ a0.2))))
noncomputable def impl_isCoord (a0 : Qr) : Option Bool :=
 (impl_isUnit a0).bind fun v1 =>
 some (v1 && (decide (a0.2 ≤ 100)))
noncomputable def impl_zero  : Option Qr :=
 some (0, 1)
noncomputable def impl_oneRat  : Option Qr :=
 some (1, 1)
noncomputable def slices_IndexFunc_Limpl_Point_impl_Point_k1  (x1 : Unit) : Option Int :=
 some (-1)
noncomputable def slices_IndexFunc_Limpl_Point_impl_Point_b1 (a0 : (List Qp)) (a1 : Qp → Option Bool) (x2 : Int) : Option (Int ⊕ (Int ⊕ Unit)) :=
 if (decide (x2 < (a0.length : Int))) = true then
  (idxO a0 x2).bind fun v5 =>
  (a1 v5).bind fun v6 =>
  if v6 = true then
   some (.inr (.inl x2))
  else
   some (.inl (w64 (x2 + 1)))
 else
  some (.inr (.inr ()))
noncomputable def slices_IndexFunc_Limpl_Point_impl_Point (a0 : (List Qp)) (a1 : (Qp → Option Bool)) : Option Int :=
 (loopO (slices_IndexFunc_Limpl_Point_impl_Point_b1 a0 a1) 0).bind fun y3 => (Sum.elim (fun p => some p) (fun p => slices_IndexFunc_Limpl_Point_impl_Point_k1 p)) y3
noncomputable def slices_ContainsFunc_Limpl_Point_impl_Point (a0 : (List Qp)) (a1 : (Qp → Option Bool)) : Option Bool :=
 (slices_IndexFunc_Limpl_Point_impl_Point a0 a1).bind fun v1 =>
 some (decide (v1 ≥ 0))
noncomputable def impl_calc_keep (a0 : Bool) (a1 : Qr) (a2 : Bool) : Option (Qr × Bool) :=
 if (!a2) = true then
  (impl_zero).bind fun v2 =>
  some (v2, true)
 else
  some (a1, a0)
noncomputable def impl_calc_sub (a0 : Bool) (a1 : Qr) (a2 : Qr) : Option (Qr × Bool) :=
 (impl_SubtractRats a1 a2).bind fun v1 =>
 (impl_calc_keep a0 v1.1 v1.2).bind fun v2 =>
 some v2
noncomputable def impl_pieceAt_1 (a0 : Qp) (c0 : Qr) : Option Bool :=
 (impl_less a0.1 c0).bind fun v1 =>
 some (!v1)
noncomputable def impl_pieceAt (a0 : (List Qp)) (a1 : Qr) : Option Int :=
 (slices_IndexFunc_Limpl_Point_impl_Point a0 (fun x0 => impl_pieceAt_1 x0 a1)).bind fun v1 =>
 some (if (w64 (v1 - 1)) < 0 then 0 else (w64 (v1 - 1)))
noncomputable def impl_DivideRats (a0 : Qr) (a1 : Qr) : Option (Qr × Bool) :=
 (impl_areRats ([a0, a1])).bind fun v1 =>
 if ((!v1) || (a1.1 == 0)) = true then
  some ((0, 0), false)
 else
  (impl_lowest (w64 (a0.1 * a1.2)) (w64 (a0.2 * a1.1))).bind fun v3 =>
  some v3
noncomputable def impl_calc_div (a0 : Bool) (a1 : Qr) (a2 : Qr) : Option (Qr × Bool) :=
 (impl_DivideRats a1 a2).bind fun v1 =>
 (impl_calc_keep a0 v1.1 v1.2).bind fun v2 =>
 some v2
noncomputable def impl_calc_slope (a0 : Bool) (a1 : Qp) (a2 : Qp) : Option (Qr × Bool) :=
 (impl_calc_sub a0 a2.2 a1.2).bind fun v1 =>
 (impl_calc_sub v1.2 a2.1 a1.1).bind fun v2 =>
 (impl_calc_div v2.2 v1.1 v2.1).bind fun v3 =>
 some v3
noncomputable def impl_MultiplyRats (a0 : Qr) (a1 : Qr) : Option (Qr × Bool) :=
 (impl_areRats ([a0, a1])).bind fun v1 =>
 if (!v1) = true then
  some ((0, 0), false)
 else
  (impl_lowest (w64 (a0.1 * a1.1)) (w64 (a0.2 * a1.2))).bind fun v3 =>
  some v3
noncomputable def impl_calc_mul (a0 : Bool) (a1 : Qr) (a2 : Qr) : Option (Qr × Bool) :=
 (impl_MultiplyRats a1 a2).bind fun v1 =>
 (impl_calc_keep a0 v1.1 v1.2).bind fun v2 =>
 some v2
noncomputable def impl_calc_add (a0 : Bool) (a1 : Qr) (a2 : Qr) : Option (Qr × Bool) :=
 (impl_AddRats a1 a2).bind fun v1 =>
 (impl_calc_keep a0 v1.1 v1.2).bind fun v2 =>
 some v2
noncomputable def impl_calc_line (a0 : Bool) (a1 : Qp) (a2 : Qr) (a3 : Qr) : Option (Qr × Bool) :=
 (impl_calc_sub a0 a3 a1.1).bind fun v1 =>
 (impl_calc_mul v1.2 a2 v1.1).bind fun v2 =>
 (impl_calc_add v2.2 a1.2 v2.1).bind fun v3 =>
 some v3
noncomputable def impl_calc_value (a0 : Bool) (a1 : (List Qp)) (a2 : Qr) : Option (Qr × Bool) :=
 (impl_pieceAt a1 a2).bind fun v1 =>
 (idxO a1 v1).bind fun v2 =>
 (idxO a1 (w64 (v1 + 1))).bind fun v3 =>
 (impl_calc_slope a0 v2 v3).bind fun v4 =>
 (impl_calc_line v4.2 v2 v4.1 a2).bind fun v5 =>
 some v5
noncomputable def spec_imPiece_k1  (x1 : Int) : Option Int :=
 some x1
noncomputable def spec_imPiece_b1 (a0 : (List Qp)) (a1 : Qr) (x2 : Int) : Option (Int ⊕ Int) :=
 (if (decide ((w64 (x2 + 2)) < (a0.length : Int))) = true then
   (idxO a0 (w64 (x2 + 1))).bind fun v4 =>
   (spec_raCmp v4.1 a1).bind fun v5 =>
   some (decide (v5 < 0))
  else
   some false).bind fun w6 =>
 if w6 = true then
  some (.inl (w64 (x2 + 1)))
 else
  some (.inr x2)
noncomputable def spec_imPiece (a0 : (List Qp)) (a1 : Qr) : Option Int :=
 (loopO (spec_imPiece_b1 a0 a1) 0).bind fun y3 => spec_imPiece_k1 y3
noncomputable def spec_raSub (a0 : Qr) (a1 : Qr) : Option (Qr × Bool) :=
 (spec_raMake (w64 ((w64 (a0.1 * a1.2)) - (w64 (a1.1 * a0.2)))) (w64 (a0.2 * a1.2))).bind fun v1 =>
 some v1
noncomputable def spec_raDiv (a0 : Qr) (a1 : Qr) : Option (Qr × Bool) :=
 if (a1.1 == 0) = true then
  some ((0, 0), false)
 else
  (spec_raMake (w64 (a0.1 * a1.2)) (w64 (a0.2 * a1.1))).bind fun v2 =>
  some v2
noncomputable def spec_imSlope (a0 : Qp) (a1 : Qp) : Option Qr :=
 (spec_raSub a1.2 a0.2).bind fun v1 =>
 (spec_raSub a1.1 a0.1).bind fun v2 =>
 (spec_raDiv v1.1 v2.1).bind fun v3 =>
 some v3.1
noncomputable def spec_raMul (a0 : Qr) (a1 : Qr) : Option (Qr × Bool) :=
 (spec_raMake (w64 (a0.1 * a1.1)) (w64 (a0.2 * a1.2))).bind fun v1 =>
 some v1
noncomputable def spec_imOn (a0 : Qp) (a1 : Qp) (a2 : Qr) : Option (Qr × Bool) :=
 (spec_raSub a2 a0.1).bind fun v1 =>
 (spec_imSlope a0 a1).bind fun v2 =>
 (spec_raMul v1.1 v2).bind fun v3 =>
 if ((!v1.2) || (!v3.2)) = true then
  some ((0, 0), false)
 else
  (spec_raAdd a0.2 v3.1).bind fun v5 =>
  some v5
noncomputable def spec_imAt (a0 : (List Qp)) (a1 : Qr) : Option (Qr × Bool) :=
 (spec_imPiece a0 a1).bind fun v1 =>
 (idxO a0 v1).bind fun v2 =>
 (idxO a0 (w64 (v1 + 1))).bind fun v3 =>
 (spec_imOn v2 v3 a1).bind fun v4 =>
 some v4
noncomputable def slices_IndexFunc_Limpl_Rat_impl_Rat_k1  (x1 : Unit) : Option Int :=
 some (-1)
noncomputable def slices_IndexFunc_Limpl_Rat_impl_Rat_b1 (a0 : (List Qr)) (a1 : Qr → Option Bool) (x2 : Int) : Option (Int ⊕ (Int ⊕ Unit)) :=
 if (decide (x2 < (a0.length : Int))) = true then
  (idxO a0 x2).bind fun v5 =>
  (a1 v5).bind fun v6 =>
  if v6 = true then
   some (.inr (.inl x2))
  else
   some (.inl (w64 (x2 + 1)))
 else
  some (.inr (.inr ()))
noncomputable def slices_IndexFunc_Limpl_Rat_impl_Rat (a0 : (List Qr)) (a1 : (Qr → Option Bool)) : Option Int :=
 (loopO (slices_IndexFunc_Limpl_Rat_impl_Rat_b1 a0 a1) 0).bind fun y3 => (Sum.elim (fun p => some p) (fun p => slices_IndexFunc_Limpl_Rat_impl_Rat_k1 p)) y3
noncomputable def impl_sign (a0 : Qr) : Option Int :=
 (impl_zero).bind fun v1 =>
 (impl_compare a0 v1).bind fun v2 =>
 some v2
noncomputable def impl_slopes_k1  (x1 : (List Qr)) : Option (List Qr) :=
 some x1
noncomputable def impl_slopes_b1 (a0 : (List Qp)) (x2 : (Bool × (List Qr) × Int)) : Option ((Bool × (List Qr) × Int) ⊕ (List Qr)) :=
 if (decide (x2.2.2 < (a0.length : Int))) = true then
  (idxO a0 (w64 (x2.2.2 - 1))).bind fun v5 =>
  (idxO a0 x2.2.2).bind fun v6 =>
  (impl_calc_slope x2.1 v5 v6).bind fun v7 =>
  (guardO (x2.2.1.length + ([v7.1]).length ≤ 1099511627776)).bind fun u8 =>
  some (.inl (v7.2, (x2.2.1 ++ [v7.1]), (w64 (x2.2.2 + 1))))
 else
  some (.inr x2.2.1)
noncomputable def impl_slopes (a0 : (List Qp)) : Option (List Qr) :=
 (loopO (impl_slopes_b1 a0) (false, [], 1)).bind fun y3 => impl_slopes_k1 y3
noncomputable def impl_laps_k1  (x1 : (List (List Int))) : Option (List (List Int)) :=
 some x1
noncomputable def impl_laps_b1 (v2 : (List Qr)) (x3 : ((List (List Int)) × Int)) : Option (((List (List Int)) × Int) ⊕ (List (List Int))) :=
 if (decide (x3.2 < (v2.length : Int))) = true then
  (idxO v2 x3.2).bind fun v6 =>
  (if (decide ((w64 ((x3.1.length : Int) - 1)) ≥ 0)) = true then
    (idxO x3.1 (w64 ((x3.1.length : Int) - 1))).bind fun v7 =>
    (idxO v7 2).bind fun v8 =>
    (impl_sign v6).bind fun v9 =>
    some (v8 == v9)
   else
    some false).bind fun w10 =>
  if w10 = true then
   (idxO x3.1 (w64 ((x3.1.length : Int) - 1))).bind fun v12 =>
   (idxO v12 1).bind fun v13 =>
   some (.inl ((x3.1.set (Int.toNat (w64 ((x3.1.length : Int) - 1))) (v12.set (Int.toNat 1) (w64 (x3.2 + 1)))), (w64 (x3.2 + 1))))
  else
   (impl_sign v6).bind fun v14 =>
   (guardO (x3.1.length + ([[x3.2, (w64 (x3.2 + 1)), v14]]).length ≤ 1099511627776)).bind fun u15 =>
   some (.inl ((x3.1 ++ [[x3.2, (w64 (x3.2 + 1)), v14]]), (w64 (x3.2 + 1))))
 else
  some (.inr x3.1)
noncomputable def impl_laps (a0 : (List Qp)) : Option (List (List Int)) :=
 (impl_slopes a0).bind fun v2 =>
 (loopO (impl_laps_b1 v2) ([], 0)).bind fun y4 => impl_laps_k1 y4
noncomputable def impl_turns_k1  (x1 : (List Qr)) : Option (List Qr) :=
 some x1
noncomputable def impl_turns_b1 (a0 : (List Qp)) (v2 : (List (List Int))) (x4 : ((List Qr) × Int)) : Option (((List Qr) × Int) ⊕ (List Qr)) :=
 if (decide (x4.2 < ((v2.drop (Int.toNat 1)).length : Int))) = true then
  (idxO (v2.drop (Int.toNat 1)) x4.2).bind fun v7 =>
  (idxO v7 0).bind fun v8 =>
  (idxO a0 v8).bind fun v9 =>
  (guardO (x4.1.length + ([v9.1]).length ≤ 1099511627776)).bind fun u10 =>
  some (.inl ((x4.1 ++ [v9.1]), (w64 (x4.2 + 1))))
 else
  some (.inr x4.1)
noncomputable def impl_turns (a0 : (List Qp)) : Option (List Qr) :=
 (impl_laps a0).bind fun v2 =>
 (guardO (0 ≤ 1 ∧ 1 ≤ (v2.length : Int))).bind fun u3 =>
 (loopO (impl_turns_b1 a0 v2) ([], 0)).bind fun y5 => impl_turns_k1 y5
noncomputable def impl_isMap_1 (a0 : Qp) : Option Bool :=
 (impl_isCoord a0.1).bind fun v1 =>
 (if (!v1) = true then
   some true
  else
   (impl_isCoord a0.2).bind fun v2 =>
   some (!v2)).bind fun w3 =>
 some w3
noncomputable def impl_xsOf_k1  (x1 : (List Qr)) : Option (List Qr) :=
 some x1
noncomputable def impl_xsOf_b1 (a0 : (List Qp)) (x2 : ((List Qr) × Int)) : Option (((List Qr) × Int) ⊕ (List Qr)) :=
 if (decide (x2.2 < (a0.length : Int))) = true then
  (idxO a0 x2.2).bind fun v5 =>
  (guardO (x2.1.length + ([v5.1]).length ≤ 1099511627776)).bind fun u6 =>
  some (.inl ((x2.1 ++ [v5.1]), (w64 (x2.2 + 1))))
 else
  some (.inr x2.1)
noncomputable def impl_xsOf (a0 : (List Qp)) : Option (List Qr) :=
 (loopO (impl_xsOf_b1 a0) ([], 0)).bind fun y3 => impl_xsOf_k1 y3
noncomputable def impl_isRising_k1  (x1 : Unit) : Option Bool :=
 some true
noncomputable def impl_isRising_b1 (a0 : (List Qr)) (x2 : Int) : Option (Int ⊕ (Bool ⊕ Unit)) :=
 if (decide (x2 < (a0.length : Int))) = true then
  (idxO a0 (w64 (x2 - 1))).bind fun v5 =>
  (idxO a0 x2).bind fun v6 =>
  (impl_less v5 v6).bind fun v7 =>
  if (!v7) = true then
   some (.inr (.inl false))
  else
   some (.inl (w64 (x2 + 1)))
 else
  some (.inr (.inr ()))
noncomputable def impl_isRising (a0 : (List Qr)) : Option Bool :=
 (loopO (impl_isRising_b1 a0) 1).bind fun y3 => (Sum.elim (fun p => some p) (fun p => impl_isRising_k1 p)) y3
noncomputable def impl_isMap (a0 : (List Qp)) : Option Bool :=
 (impl_within (a0.length : Int) 2 12).bind fun v1 =>
 (if (!v1) = true then
   some true
  else
   (slices_ContainsFunc_Limpl_Point_impl_Point a0 (fun x0 => impl_isMap_1 x0)).bind fun v2 =>
   some v2).bind fun w3 =>
 if w3 = true then
  some false
 else
  (idxO a0 0).bind fun v5 =>
  (impl_zero).bind fun v6 =>
  (if ((v5.1.1 == v6.1) && (v5.1.2 == v6.2)) = true then
    (idxO a0 (w64 ((a0.length : Int) - 1))).bind fun v7 =>
    (impl_oneRat).bind fun v8 =>
    if ((v7.1.1 == v8.1) && (v7.1.2 == v8.2)) = true then
     (impl_xsOf a0).bind fun v9 =>
     (impl_isRising v9).bind fun v10 =>
     some v10
    else
     some false
   else
    some false).bind fun w11 =>
  some w11
noncomputable def slices_ContainsFunc_Limpl_Rat_impl_Rat (a0 : (List Qr)) (a1 : (Qr → Option Bool)) : Option Bool :=
 (slices_IndexFunc_Limpl_Rat_impl_Rat a0 a1).bind fun v1 =>
 some (decide (v1 ≥ 0))
noncomputable def impl_isLapMap_1 (a0 : Qr) : Option Bool :=
 some (a0.1 == 0)
noncomputable def impl_isLapMap (a0 : (List Qp)) : Option Bool :=
 (impl_isMap a0).bind fun v1 =>
 (if v1 = true then
   (impl_slopes a0).bind fun v2 =>
   (slices_ContainsFunc_Limpl_Rat_impl_Rat v2 (fun x0 => impl_isLapMap_1 x0)).bind fun v3 =>
   some (!v3)
  else
   some false).bind fun w4 =>
 some w4
noncomputable def impl_isStrict (a0 : (List Qp)) : Option Bool :=
 (impl_isLapMap a0).bind fun v1 =>
 some v1
noncomputable def spec_imGood_k1 (a0 : (List Qp)) (x3 : Unit) : Option Bool :=
 (idxO a0 0).bind fun v4 =>
 (spec_raInt 0).bind fun v5 =>
 (spec_raCmp v4.1 v5).bind fun v6 =>
 (if (v6 == 0) = true then
   (idxO a0 (w64 ((a0.length : Int) - 1))).bind fun v7 =>
   (spec_raInt 1).bind fun v8 =>
   (spec_raCmp v7.1 v8).bind fun v9 =>
   some (v9 == 0)
  else
   some false).bind fun w10 =>
 some w10
noncomputable def spec_imGood_b1 (a0 : (List Qp)) (x11 : Int) : Option (Int ⊕ (Bool ⊕ Unit)) :=
 if (decide (x11 < (a0.length : Int))) = true then
  (idxO a0 x11).bind fun v14 =>
  (spec_imCoord v14.1).bind fun v15 =>
  (if (!v15) = true then
    some true
   else
    (spec_imCoord v14.2).bind fun v16 =>
    if (!v16) = true then
     some true
    else
     if (decide (x11 > 0)) = true then
      (idxO a0 (w64 (x11 - 1))).bind fun v17 =>
      (spec_raCmp v17.1 v14.1).bind fun v18 =>
      some (decide (v18 ≥ 0))
     else
      some false).bind fun w19 =>
  if w19 = true then
   some (.inr (.inl false))
  else
   some (.inl (w64 (x11 + 1)))
 else
  some (.inr (.inr ()))
noncomputable def spec_imGood (a0 : (List Qp)) : Option Bool :=
 (spec_l1In (a0.length : Int) 2 12).bind fun v1 =>
 if (!v1) = true then
  some false
 else
  (loopO (spec_imGood_b1 a0) 0).bind fun y12 => (Sum.elim (fun p => some p) (fun p => spec_imGood_k1 a0 p)) y12
noncomputable def spec_imSlopes_k1  (x1 : (List Qr)) : Option (List Qr) :=
 some x1
noncomputable def spec_imSlopes_b1 (a0 : (List Qp)) (x2 : ((List Qr) × Int)) : Option (((List Qr) × Int) ⊕ (List Qr)) :=
 if (decide (x2.2 < (a0.length : Int))) = true then
  (idxO a0 (w64 (x2.2 - 1))).bind fun v5 =>
  (idxO a0 x2.2).bind fun v6 =>
  (spec_imSlope v5 v6).bind fun v7 =>
  (guardO (x2.1.length + ([v7]).length ≤ 1099511627776)).bind fun u8 =>
  some (.inl ((x2.1 ++ [v7]), (w64 (x2.2 + 1))))
 else
  some (.inr x2.1)
noncomputable def spec_imSlopes (a0 : (List Qp)) : Option (List Qr) :=
 (loopO (spec_imSlopes_b1 a0) ([], 1)).bind fun y3 => spec_imSlopes_k1 y3
noncomputable def spec_lpStrict_k1  (x1 : Unit) : Option Bool :=
 some true
noncomputable def spec_lpStrict_b1 (v2 : (List Qr)) (x3 : Int) : Option (Int ⊕ (Bool ⊕ Unit)) :=
 if (decide (x3 < (v2.length : Int))) = true then
  (idxO v2 x3).bind fun v6 =>
  if (v6.1 == 0) = true then
   some (.inr (.inl false))
  else
   some (.inl (w64 (x3 + 1)))
 else
  some (.inr (.inr ()))
noncomputable def spec_lpStrict (a0 : (List Qp)) : Option Bool :=
 (spec_imSlopes a0).bind fun v2 =>
 (loopO (spec_lpStrict_b1 v2) 0).bind fun y4 => (Sum.elim (fun p => some p) (fun p => spec_lpStrict_k1 p)) y4
noncomputable def spec_imLaps_k1  (x1 : (List (List Int))) : Option (List (List Int)) :=
 some x1
noncomputable def spec_imLaps_b1 (v2 : (List Qr)) (x3 : ((List (List Int)) × Int)) : Option (((List (List Int)) × Int) ⊕ (List (List Int))) :=
 if (decide (x3.2 < (v2.length : Int))) = true then
  (idxO v2 x3.2).bind fun v6 =>
  (spec_l1Sign v6.1).bind fun v7 =>
  (if (decide ((x3.1.length : Int) > 0)) = true then
    (idxO x3.1 (w64 ((x3.1.length : Int) - 1))).bind fun v8 =>
    (idxO v8 2).bind fun v9 =>
    some (v9 == v7)
   else
    some false).bind fun w10 =>
  if w10 = true then
   (idxO x3.1 (w64 ((x3.1.length : Int) - 1))).bind fun v12 =>
   (idxO v12 1).bind fun v13 =>
   some (.inl ((x3.1.set (Int.toNat (w64 ((x3.1.length : Int) - 1))) (v12.set (Int.toNat 1) (w64 (x3.2 + 1)))), (w64 (x3.2 + 1))))
  else
   (guardO (x3.1.length + ([[x3.2, (w64 (x3.2 + 1)), v7]]).length ≤ 1099511627776)).bind fun u14 =>
   some (.inl ((x3.1 ++ [[x3.2, (w64 (x3.2 + 1)), v7]]), (w64 (x3.2 + 1))))
 else
  some (.inr x3.1)
noncomputable def spec_imLaps (a0 : (List Qp)) : Option (List (List Int)) :=
 (spec_imSlopes a0).bind fun v2 =>
 (loopO (spec_imLaps_b1 v2) ([], 0)).bind fun y4 => spec_imLaps_k1 y4
noncomputable def spec_lpTurns_k1  (x1 : (List Qr)) : Option (List Qr) :=
 some x1
noncomputable def spec_lpTurns_b1 (a0 : (List Qp)) (v2 : (List (List Int))) (x4 : ((List Qr) × Int)) : Option (((List Qr) × Int) ⊕ (List Qr)) :=
 if (decide (x4.2 < ((v2.drop (Int.toNat 1)).length : Int))) = true then
  (idxO (v2.drop (Int.toNat 1)) x4.2).bind fun v7 =>
  (idxO v7 0).bind fun v8 =>
  (idxO a0 v8).bind fun v9 =>
  (guardO (x4.1.length + ([v9.1]).length ≤ 1099511627776)).bind fun u10 =>
  some (.inl ((x4.1 ++ [v9.1]), (w64 (x4.2 + 1))))
 else
  some (.inr x4.1)
noncomputable def spec_lpTurns (a0 : (List Qp)) : Option (List Qr) :=
 (spec_imLaps a0).bind fun v2 =>
 (guardO (0 ≤ 1 ∧ 1 ≤ (v2.length : Int))).bind fun u3 =>
 (loopO (spec_lpTurns_b1 a0 v2) ([], 0)).bind fun y5 => spec_lpTurns_k1 y5
noncomputable def impl_orbit_k1  (x1 : (List Qr)) : Option (List Qr) :=
 some x1
noncomputable def impl_orbit_b1 (a0 : (List Qp)) (a2 : Int) (x2 : (Int × Int × (List Qr) × Bool × Int)) : Option ((Int × Int × (List Qr) × Bool × Int) ⊕ (List Qr)) :=
 if (decide (x2.2.2.2.2 < a2)) = true then
  (impl_calc_value x2.2.2.2.1 a0 (x2.1, x2.2.1)).bind fun v5 =>
  if v5.2 = true then
   some (.inr x2.2.2.1)
  else
   (guardO (x2.2.2.1.length + ([v5.1]).length ≤ 1099511627776)).bind fun u7 =>
   some (.inl (v5.1.1, v5.1.2, (x2.2.2.1 ++ [v5.1]), v5.2, (w64 (x2.2.2.2.2 + 1))))
 else
  some (.inr x2.2.2.1)
noncomputable def impl_orbit (a0 : (List Qp)) (a1 : Qr) (a2 : Int) : Option (List Qr) :=
 (loopO (impl_orbit_b1 a0 a2) (a1.1, a1.2, [a1], false, 0)).bind fun y3 => impl_orbit_k1 y3
noncomputable def impl_isUnimodal (a0 : (List Qp)) : Option Bool :=
 (impl_isStrict a0).bind fun v1 =>
 if (!v1) = true then
  some false
 else
  (impl_laps a0).bind fun v3 =>
  (if ((v3.length : Int) == 2) = true then
    (idxO v3 0).bind fun v4 =>
    (idxO v4 2).bind fun v5 =>
    some (v5 == 1)
   else
    some false).bind fun w6 =>
  some w6
noncomputable def spec_knLaps (a0 : (List Qp)) : Option Bool :=
 (spec_imGood a0).bind fun v1 =>
 (if (!v1) = true then
   some true
  else
   (spec_lpStrict a0).bind fun v2 =>
   some (!v2)).bind fun w3 =>
 if w3 = true then
  some false
 else
  (spec_imLaps a0).bind fun v5 =>
  (if ((v5.length : Int) == 2) = true then
    (idxO v5 0).bind fun v6 =>
    (idxO v6 2).bind fun v7 =>
    some (v7 == 1)
   else
    some false).bind fun w8 =>
  some w8
noncomputable def spec_knLength (a0 : Int) : Option Bool :=
 (spec_l1In a0 1 30).bind fun v1 =>
 some v1
noncomputable def spec_knCentre (a0 : (List Qp)) : Option Qr :=
 (spec_lpTurns a0).bind fun v1 =>
 (idxO v1 0).bind fun v2 =>
 some v2
noncomputable def spec_orRun_k1  (x1 : (List Qr)) : Option (List Qr) :=
 some x1
noncomputable def spec_orRun_b1 (a0 : (List Qp)) (a2 : Int) (x2 : (List Qr)) : Option ((List Qr) ⊕ ((List Qr) ⊕ (List Qr))) :=
 if (decide ((x2.length : Int) ≤ a2)) = true then
  (idxO x2 (w64 ((x2.length : Int) - 1))).bind fun v5 =>
  (spec_imAt a0 v5).bind fun v6 =>
  if (!v6.2) = true then
   some (.inr (.inl x2))
  else
   (guardO (x2.length + ([v6.1]).length ≤ 1099511627776)).bind fun u8 =>
   some (.inl (x2 ++ [v6.1]))
 else
  some (.inr (.inr x2))
noncomputable def spec_orRun (a0 : (List Qp)) (a1 : Qr) (a2 : Int) : Option (List Qr) :=
 (loopO (spec_orRun_b1 a0 a2) ([a1])).bind fun y3 => (Sum.elim (fun p => some p) (fun p => spec_orRun_k1 p)) y3
noncomputable def spec_knValues (a0 : (List Qp)) (a1 : Int) : Option ((List Qr) × Bool) :=
 (spec_knCentre a0).bind fun v1 =>
 (spec_orRun a0 v1 a1).bind fun v2 =>
 if (decide ((v2.length : Int) ≤ a1)) = true then
  some ([], false)
 else
  (guardO (0 ≤ 1 ∧ 1 ≤ (v2.length : Int))).bind fun u4 =>
  some ((v2.drop (Int.toNat 1)), true)
noncomputable def spec_knWord_k1  (x3 : ByteArray) : Option (ByteArray × Bool) :=
 some (x3, true)
noncomputable def spec_knWord_b1 (a0 : (List Qp)) (v1 : ((List Qr) × Bool)) (x4 : (ByteArray × Int)) : Option ((ByteArray × Int) ⊕ ByteArray) :=
 if (decide (x4.2 < (v1.1.length : Int))) = true then
  (idxO v1.1 x4.2).bind fun v7 =>
  (spec_knCentre a0).bind fun v8 =>
  (spec_raCmp v7 v8).bind fun v9 =>
  (guardO (0 ≤ (w64 (1 + v9)) ∧ (w64 (1 + v9)) ≤ (w64 ((w64 (1 + v9)) + 1)) ∧ (w64 ((w64 (1 + v9)) + 1)) ≤ ((ByteArray.mk #[76, 67, 82]).size : Int))).bind fun u10 =>
  (guardO (x4.1.size + (strCut (ByteArray.mk #[76, 67, 82]) (w64 (1 + v9)) (w64 ((w64 (1 + v9)) + 1))).size ≤ 1099511627776)).bind fun u11 =>
  some (.inl ((x4.1 ++ (strCut (ByteArray.mk #[76, 67, 82]) (w64 (1 + v9)) (w64 ((w64 (1 + v9)) + 1)))), (w64 (x4.2 + 1))))
 else
  some (.inr x4.1)
noncomputable def spec_knWord (a0 : (List Qp)) (a1 : Int) : Option (ByteArray × Bool) :=
 (spec_knValues a0 a1).bind fun v1 =>
 if (!v1.2) = true then
  some (ByteArray.empty, false)
 else
  (loopO (spec_knWord_b1 a0 v1) (ByteArray.empty, 0)).bind fun y5 => spec_knWord_k1 y5
noncomputable def impl_kneading (a0 : (List Qp)) (a1 : Int) : Option ((List Qr) × Qr × Bool) :=
 (impl_isUnimodal a0).bind fun v1 =>
 (if (!v1) = true then
   some true
  else
   (impl_within a1 1 30).bind fun v2 =>
   some (!v2)).bind fun w3 =>
 if w3 = true then
  some ([], (0, 0), false)
 else
  (impl_turns a0).bind fun v5 =>
  (idxO v5 0).bind fun v6 =>
  (impl_orbit a0 v6 a1).bind fun v7 =>
  if (decide ((v7.length : Int) ≤ a1)) = true then
   some ([], (0, 0), false)
  else
   (guardO (0 ≤ 1 ∧ 1 ≤ (v7.length : Int))).bind fun u9 =>
   some ((v7.drop (Int.toNat 1)), v6, true)
noncomputable def strings_Builder_copyCheck (a0 : (Unit × (List Int))) : Option (Unit × (List Int)) :=
 some a0
noncomputable def strings_Builder_WriteByte (a0 : (Unit × (List Int))) (a1 : Int) : Option (Unit × (Unit × (List Int))) :=
 (strings_Builder_copyCheck ((), a0.2)).bind fun v1 =>
 (guardO (v1.2.length + ([a1]).length ≤ 1099511627776)).bind fun u2 =>
 some ((), ((), (v1.2 ++ [a1])))
noncomputable def strings_Builder_String (a0 : (Unit × (List Int))) : Option ByteArray :=
 (guardO (a0.2 ≠ [] ∧ bytesOk a0.2 = true)).bind fun u1 =>
 some (bytesB a0.2)
noncomputable def impl_KneadingOf_k1  (x3 : (List Int)) : Option (ByteArray × Bool) :=
 (strings_Builder_String ((), x3)).bind fun v4 =>
 some (v4, true)
noncomputable def impl_KneadingOf_b1 (v1 : ((List Qr) × Qr × Bool)) (x5 : ((List Int) × Int)) : Option (((List Int) × Int) ⊕ (List Int)) :=
 if (decide (x5.2 < (v1.1.length : Int))) = true then
  (idxO v1.1 x5.2).bind fun v8 =>
  (impl_compare v8 v1.2.1).bind fun v9 =>
  (guardO (0 ≤ (w64 (v9 + 1)) ∧ (w64 (v9 + 1)) < ((ByteArray.mk #[76, 67, 82]).size : Int))).bind fun u10 =>
  (strings_Builder_WriteByte ((), x5.1) (strAt (ByteArray.mk #[76, 67, 82]) (w64 (v9 + 1)))).bind fun v11 =>
  some (.inl (v11.2.2, (w64 (x5.2 + 1))))
 else
  some (.inr x5.1)
noncomputable def impl_KneadingOf (a0 : (List Qp)) (a1 : Int) : Option (ByteArray × Bool) :=
 (impl_kneading a0 a1).bind fun v1 =>
 if (!v1.2.2) = true then
  some (ByteArray.empty, false)
 else
  (loopO (impl_KneadingOf_b1 v1) ([], 0)).bind fun y6 => impl_KneadingOf_k1 y6
noncomputable def spec_knGood_k1 (a0 : ByteArray) (x1 : Unit) : Option Bool :=
 (spec_knLength (a0.size : Int)).bind fun v2 =>
 some v2
noncomputable def spec_knGood_k2 (x3 : Int) (x6 : Unit) : Option (Int ⊕ (Bool ⊕ Unit)) :=
 some (.inl (w64 (x3 + 1)))
noncomputable def spec_knGood_k3 (x3 : Int) (x7 : Bool) : Option (Int ⊕ (Bool ⊕ Unit)) :=
 if (!x7) = true then
  some (.inr (.inl false))
 else
  spec_knGood_k2 x3 ()
noncomputable def spec_knGood_b2 (a0 : ByteArray) (a1 : ByteArray) (x3 : Int) (x9 : (Bool × Int)) : Option ((Bool × Int) ⊕ Bool) :=
 if (decide (x9.2 < (a1.size : Int))) = true then
  (if x9.1 = true then
    some true
   else
    (guardO (0 ≤ x3 ∧ x3 < (a0.size : Int))).bind fun u12 =>
    (guardO (0 ≤ x9.2 ∧ x9.2 < (a1.size : Int))).bind fun u13 =>
    some ((strAt a0 x3) == (strAt a1 x9.2))).bind fun w14 =>
  some (.inl (w14, (w64 (x9.2 + 1))))
 else
  some (.inr x9.1)
noncomputable def spec_knGood_b1 (a0 : ByteArray) (a1 : ByteArray) (x3 : Int) : Option (Int ⊕ (Bool ⊕ Unit)) :=
 if (decide (x3 < (a0.size : Int))) = true then
  (loopO (spec_knGood_b2 a0 a1 x3) (false, 0)).bind fun y10 => spec_knGood_k3 x3 y10
 else
  some (.inr (.inr ()))
noncomputable def spec_knGood (a0 : ByteArray) (a1 : ByteArray) : Option Bool :=
 (loopO (spec_knGood_b1 a0 a1) 0).bind fun y4 => (Sum.elim (fun p => some p) (fun p => spec_knGood_k1 a0 p)) y4
noncomputable def spec_knTent (a0 : Qr) : Option (List Qp) :=
 (spec_raInt 0).bind fun v1 =>
 (spec_raInt 0).bind fun v2 =>
 (spec_raInt 1).bind fun v3 =>
 (spec_raInt 0).bind fun v4 =>
 some ([(v1, v2), ((1, 2), a0), (v3, v4)])
noncomputable def spec_knRank (a0 : Int) : Option Int :=
 if (a0 == 76) = true then
  some 0
 else
  if (a0 == 67) = true then
   some 1
  else
   some 2
noncomputable def spec_knCompare_k1  (x1 : Unit) : Option Int :=
 some 0
noncomputable def spec_knCompare_b1 (a0 : ByteArray) (a1 : ByteArray) (x2 : Qr) : Option (Qr ⊕ (Int ⊕ Unit)) :=
 if (decide (x2.2 < (a0.size : Int))) = true then
  (guardO (0 ≤ x2.2 ∧ x2.2 < (a0.size : Int))).bind fun u5 =>
  (guardO (0 ≤ x2.2 ∧ x2.2 < (a1.size : Int))).bind fun u6 =>
  if ((strAt a0 x2.2) != (strAt a1 x2.2)) = true then
   (spec_knRank (strAt a0 x2.2)).bind fun v8 =>
   (spec_knRank (strAt a1 x2.2)).bind fun v9 =>
   (spec_l1Sign (w64 (v8 - v9))).bind fun v10 =>
   some (.inr (.inl (w64 (x2.1 * v10))))
  else
   if ((strAt a0 x2.2) == 82) = true then
    some (.inl ((w64 (0 - x2.1)), (w64 (x2.2 + 1))))
   else
    some (.inl (x2.1, (w64 (x2.2 + 1))))
 else
  some (.inr (.inr ()))
noncomputable def spec_knCompare (a0 : ByteArray) (a1 : ByteArray) : Option Int :=
 (loopO (spec_knCompare_b1 a0 a1) (1, 0)).bind fun y3 => (Sum.elim (fun p => some p) (fun p => spec_knCompare_k1 p)) y3
noncomputable def spec_HeightFor_k1  (x3 : Unit) : Option (Qr × Bool) :=
 some ((0, 0), false)
noncomputable def spec_HeightFor_b1 (a0 : ByteArray) (x4 : Int) : Option (Int ⊕ ((Qr × Bool) ⊕ Unit)) :=
 if (decide (x4 > 50)) = true then
  (spec_raMake x4 100).bind fun v7 =>
  (spec_knTent v7.1).bind fun v8 =>
  (spec_knWord v8 (a0.size : Int)).bind fun v9 =>
  (if v9.2 = true then
    (spec_knCompare v9.1 a0).bind fun v10 =>
    some (decide (v10 ≤ 0))
   else
    some false).bind fun w11 =>
  if w11 = true then
   some (.inr (.inl (v7.1, true)))
  else
   some (.inl (w64 (x4 - 1)))
 else
  some (.inr (.inr ()))
noncomputable def spec_HeightFor (a0 : ByteArray) : Option (Qr × Bool) :=
 (spec_knGood a0 (ByteArray.mk #[76, 67, 82])).bind fun v1 =>
 if ((!v1) || (decide ((a0.size : Int) > 4))) = true then
  some ((0, 0), false)
 else
  (loopO (spec_HeightFor_b1 a0) 100).bind fun y5 => (Sum.elim (fun p => some p) (fun p => spec_HeightFor_k1 p)) y5
noncomputable def strings_Trim (a0 : ByteArray) (a1 : ByteArray) : Option ByteArray :=
 (guardO (a0.size ≤ 1099511627776 ∧ a1.size ≤ 1048576 ∧ asciiB a1 = true)).bind fun u1 =>
 some (trimB a0 a1)
noncomputable def impl_isKneadingWord (a0 : ByteArray) : Option Bool :=
 (impl_within (a0.size : Int) 1 30).bind fun v1 =>
 (if v1 = true then
   (strings_Trim a0 (ByteArray.mk #[76, 67, 82])).bind fun v2 =>
   some (v2.toList == ByteArray.empty.toList)
  else
   some false).bind fun w3 =>
 some w3
noncomputable def impl_tentMap (a0 : Qr) : Option (List Qp) :=
 (impl_zero).bind fun v1 =>
 (impl_zero).bind fun v2 =>
 (impl_oneRat).bind fun v3 =>
 (impl_zero).bind fun v4 =>
 some ([(v1, v2), ((1, 2), a0), (v3, v4)])
noncomputable def strings_IndexByte (a0 : ByteArray) (a1 : Int) : Option Int :=
 some (Lib.indexByte a0.data.toList a1.toNat.toUInt8)
noncomputable def impl_compareKneading_k1  (x1 : Unit) : Option Int :=
 some 0
noncomputable def impl_compareKneading_b1 (a0 : ByteArray) (a1 : ByteArray) (x2 : Qr) : Option (Qr ⊕ (Int ⊕ Unit)) :=
 if (decide (x2.2 < (a0.size : Int))) = true then
  (guardO (0 ≤ x2.2 ∧ x2.2 < (a0.size : Int))).bind fun u5 =>
  (strings_IndexByte (ByteArray.mk #[76, 67, 82]) (strAt a0 x2.2)).bind fun v6 =>
  (guardO (0 ≤ x2.2 ∧ x2.2 < (a1.size : Int))).bind fun u7 =>
  (strings_IndexByte (ByteArray.mk #[76, 67, 82]) (strAt a1 x2.2)).bind fun v8 =>
  if (decide (v6 < v8)) = true then
   some (.inr (.inl (w64 (0 - x2.1))))
  else
   if (decide (v6 > v8)) = true then
    some (.inr (.inl x2.1))
   else
    if ((strAt a0 x2.2) == 82) = true then
     some (.inl ((w64 (0 - x2.1)), (w64 (x2.2 + 1))))
    else
     some (.inl (x2.1, (w64 (x2.2 + 1))))
 else
  some (.inr (.inr ()))
noncomputable def impl_compareKneading (a0 : ByteArray) (a1 : ByteArray) : Option Int :=
 (loopO (impl_compareKneading_b1 a0 a1) (1, 0)).bind fun y3 => (Sum.elim (fun p => some p) (fun p => impl_compareKneading_k1 p)) y3
noncomputable def impl_HeightFor_k1  (x3 : Unit) : Option (Qr × Bool) :=
 some ((0, 0), false)
noncomputable def impl_HeightFor_b1 (a0 : ByteArray) (x4 : Int) : Option (Int ⊕ ((Qr × Bool) ⊕ Unit)) :=
 if (decide (x4 ≥ 51)) = true then
  (impl_lowest x4 100).bind fun v7 =>
  (impl_tentMap v7.1).bind fun v8 =>
  (impl_KneadingOf v8 (a0.size : Int)).bind fun v9 =>
  if (!v9.2) = true then
   some (.inr (.inl ((0, 0), false)))
  else
   (impl_compareKneading v9.1 a0).bind fun v11 =>
   if (decide (v11 ≤ 0)) = true then
    some (.inr (.inl (v7.1, true)))
   else
    some (.inl (w64 (x4 - 1)))
 else
  some (.inr (.inr ()))
noncomputable def impl_HeightFor (a0 : ByteArray) : Option (Qr × Bool) :=
 (impl_isKneadingWord a0).bind fun v1 =>
 if ((!v1) || (decide ((a0.size : Int) > 4))) = true then
  some ((0, 0), false)
 else
  (loopO (impl_HeightFor_b1 a0) 100).bind fun y5 => (Sum.elim (fun p => some p) (fun p => impl_HeightFor_k1 p)) y5
noncomputable def laws_FnExactHeightFor (a0 : ByteArray) : Option Bool :=
 if (decide ((a0.size : Int) > 1048576)) = true then
  some true
 else
  (spec_HeightFor a0).bind fun v2 =>
  (impl_HeightFor a0).bind fun v3 =>
  (laws_eqRat v3.1 v2.1).bind fun v4 =>
  if ((!v4) || (!(v3.2 == v2.2))) = true then
   some false
  else
   some true
end Go.PV
