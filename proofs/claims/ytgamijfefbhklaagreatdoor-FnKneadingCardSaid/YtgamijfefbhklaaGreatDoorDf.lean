/-
  Plain definitions of what the functions answer.
  Conditions: none.
-/
import Derived.Test.YtgamijfefbhklaaGreatDoorPvCx
set_option linter.all false
namespace Go.PV
noncomputable def spec_l1In (a0 : Int) (a1 : Int) (a2 : Int) : Option Bool :=
 some ((decide (a0 ≥ a1)) && (decide (a0 ≤ a2)))
noncomputable def spec_l1Most (a0 : Int) (a1 : Int) : Option Int :=
 if (decide (a0 > a1)) = true then
  some a0
 else
  some a1
noncomputable def spec_l1Abs (a0 : Int) : Option Int :=
 (spec_l1Most a0 (w64 (0 - a0))).bind fun v1 =>
 some v1
noncomputable def spec_raCommon_k1  (x1 : Int) : Option Int :=
 some x1
noncomputable def spec_raCommon_b1  (x2 : Qr) : Option (Qr ⊕ Int) :=
 if (decide (x2.2 > 0)) = true then
  (guardO (x2.2 ≠ 0)).bind fun u5 =>
  some (.inl (x2.2, (Int.tmod x2.1 x2.2)))
 else
  some (.inr x2.1)
noncomputable def spec_raCommon (a0 : Int) (a1 : Int) : Option Int :=
 (loopO spec_raCommon_b1 (a0, a1)).bind fun y3 => spec_raCommon_k1 y3
noncomputable def spec_raGood (a0 : Qr) : Option Bool :=
 (spec_l1In a0.2 1 1000000000).bind fun v1 =>
 (if v1 = true then
   (spec_l1In a0.1 (-1000000000) 1000000000).bind fun v2 =>
   if v2 = true then
    (spec_l1Abs a0.1).bind fun v3 =>
    (spec_raCommon v3 a0.2).bind fun v4 =>
    some (v4 == 1)
   else
    some false
  else
   some false).bind fun w5 =>
 some w5
noncomputable def spec_raMake_k1 (a0 : Int) (a1 : Int) (x5 : Int) : Option (Qr × Bool) :=
 (guardO (x5 ≠ 0)).bind fun u6 =>
 (spec_raGood ((w64 (Int.tdiv a0 x5)), (w64 (Int.tdiv a1 x5)))).bind fun v7 =>
 if (!v7) = true then
  some ((0, 0), false)
 else
  some (((w64 (Int.tdiv a0 x5)), (w64 (Int.tdiv a1 x5))), true)
noncomputable def spec_raMake (a0 : Int) (a1 : Int) : Option (Qr × Bool) :=
 if (a1 == 0) = true then
  some ((0, 0), false)
 else
  (spec_l1Abs a0).bind fun v2 =>
  (spec_l1Abs a1).bind fun v3 =>
  (spec_raCommon v2 v3).bind fun v4 =>
  if (decide (a1 < 0)) = true then
   spec_raMake_k1 a0 a1 (w64 (0 - v4))
  else
   spec_raMake_k1 a0 a1 v4
noncomputable def spec_raAdd (a0 : Qr) (a1 : Qr) : Option (Qr × Bool) :=
 (spec_raMake (w64 ((w64 (a0.1 * a1.2)) + (w64 (a1.1 * a0.2)))) (w64 (a0.2 * a1.2))).bind fun v1 =>
 some v1
noncomputable def spec_l1Cur_next_k1 (a0 : Cu) (x1 : Int) : Option (Int × Cu) :=
 if (decide ((w64 (a0.2.1 + 1)) ≤ (a0.1.length : Int))) = true then
  some (x1, (a0.1, (w64 (a0.2.1 + 1)), (IntKind.wrap .u64 ((IntKind.wrap .u64 ((IntKind.wrap .u64 (a0.2.2 * 6364136223846793005)) + (IntKind.wrap .u64 x1))) + 1442695040888963407))))
 else
  some ((IntKind.wrap .i64 (iand .u64 (ishr .u64 (IntKind.wrap .u64 ((IntKind.wrap .u64 ((IntKind.wrap .u64 (a0.2.2 * 6364136223846793005)) + (IntKind.wrap .u64 x1))) + 1442695040888963407)) 40) 255)), (a0.1, (w64 (a0.2.1 + 1)), (IntKind.wrap .u64 ((IntKind.wrap .u64 ((IntKind.wrap .u64 (a0.2.2 * 6364136223846793005)) + (IntKind.wrap .u64 x1))) + 1442695040888963407))))
noncomputable def spec_l1Cur_next (a0 : Cu) : Option (Int × Cu) :=
 if (decide (a0.2.1 < (a0.1.length : Int))) = true then
  (idxO a0.1 a0.2.1).bind fun v4 =>
  spec_l1Cur_next_k1 a0 (IntKind.wrap .i64 v4)
 else
  spec_l1Cur_next_k1 a0 0
noncomputable def spec_l1Cur_pick_k1 (a1 : Int) (x3 : ((List Int) × Int × Int × Int)) : Option (Int × Cu) :=
 (guardO (a1 ≠ 0)).bind fun u4 =>
 some ((Int.tmod x3.2.2.2 a1), (x3.1, x3.2.1, x3.2.2.1))
noncomputable def spec_l1Cur_pick (a0 : Cu) (a1 : Int) : Option (Int × Cu) :=
 if (decide (a1 ≤ 1)) = true then
  some (0, a0)
 else
  (spec_l1Cur_next a0).bind fun v2 =>
  if (decide (a1 > 200)) = true then
   (spec_l1Cur_next v2.2).bind fun v6 =>
   spec_l1Cur_pick_k1 a1 (v6.2.1, v6.2.2.1, v6.2.2.2, (w64 ((w64 (v2.1 * 256)) + v6.1)))
  else
   spec_l1Cur_pick_k1 a1 (v2.2.1, v2.2.2.1, v2.2.2.2, v2.1)
noncomputable def spec_l1Cur_gridRat (a0 : Cu) (a1 : Int) : Option (Qr × Cu) :=
 (spec_l1Cur_pick a0 (w64 (a1 + 1))).bind fun v1 =>
 (spec_raMake v1.1 a1).bind fun v2 =>
 some (v2.1, v1.2)
noncomputable def spec_l1Cur_one (a0 : Cu) (a1 : Int) : Option (Bool × Cu) :=
 (spec_l1Cur_pick a0 a1).bind fun v1 =>
 some ((v1.1 == 0), v1.2)
noncomputable def spec_l1Cur_among (a0 : Cu) (a1 : (List Int)) : Option (Int × Cu) :=
 (spec_l1Cur_pick a0 (a1.length : Int)).bind fun v1 =>
 (idxO a1 v1.1).bind fun v2 =>
 some (v2, v1.2)
noncomputable def spec_l1Sign (a0 : Int) : Option Int :=
 if (decide (a0 > 0)) = true then
  some 1
 else
  if (decide (a0 < 0)) = true then
   some (-1)
  else
   some 0
noncomputable def spec_raCmp (a0 : Qr) (a1 : Qr) : Option Int :=
 (spec_l1Sign (w64 ((w64 (a0.1 * a1.2)) - (w64 (a1.1 * a0.2))))).bind fun v1 =>
 some v1
noncomputable def spec_imPut_k1 (a0 : (List Qr)) (a1 : Qr) (x1 : Int) : Option (List Qr) :=
 (if (decide (x1 < (a0.length : Int))) = true then
   (idxO a0 x1).bind fun v2 =>
   some ((v2.1 == a1.1) && (v2.2 == a1.2))
  else
   some false).bind fun w3 =>
 if w3 = true then
  some a0
 else
  (guardO (0 ≤ x1 ∧ x1 ≤ (a0.length : Int))).bind fun u5 =>
  (guardO ((a0.take (Int.toNat x1)).length ≤ 1099511627776)).bind fun u6 =>
  (guardO ((a0.take (Int.toNat x1)).length + ([a1]).length ≤ 1099511627776)).bind fun u7 =>
  (guardO (((a0.take (Int.toNat x1)) ++ [a1]).length + (a0.drop (Int.toNat x1)).length ≤ 1099511627776)).bind fun u8 =>
  some (((a0.take (Int.toNat x1)) ++ [a1]) ++ (a0.drop (Int.toNat x1)))
noncomputable def spec_imPut_b1 (a0 : (List Qr)) (a1 : Qr) (x9 : Int) : Option (Int ⊕ Int) :=
 (if (decide (x9 < (a0.length : Int))) = true then
   (idxO a0 x9).bind fun v11 =>
   (spec_raCmp v11 a1).bind fun v12 =>
   some (decide (v12 < 0))
  else
   some false).bind fun w13 =>
 if w13 = true then
  some (.inl (w64 (x9 + 1)))
 else
  some (.inr x9)
noncomputable def spec_imPut (a0 : (List Qr)) (a1 : Qr) : Option (List Qr) :=
 (loopO (spec_imPut_b1 a0 a1) 0).bind fun y10 => spec_imPut_k1 a0 a1 y10
noncomputable def spec_raInt (a0 : Int) : Option Qr :=
 some (a0, 1)
noncomputable def spec_raUnit (a0 : Qr) : Option Bool :=
 (spec_raGood a0).bind fun v1 =>
 (if v1 = true then
   (spec_l1In a0.1 0 a0.2).bind fun v2 =>
   some v2
  else
   some false).bind fun w3 =>
 some w3
noncomputable def spec_imCoord (a0 : Qr) : Option Bool :=
 (spec_raUnit a0).bind fun v1 =>
 some (v1 && (decide (a0.2 ≤ 100)))
noncomputable def spec_l1Cur_rat (a0 : Cu) : Option (Qr × Cu) :=
 (spec_l1Cur_pick a0 41).bind fun v1 =>
 (spec_l1Cur_pick v1.2 2001).bind fun v2 =>
 (spec_l1Cur_among v2.2 ([0, 1, 2, 3, (-1), (-5), (w64 (v1.1 - 20)), (w64 (v2.1 - 1000)), 1000000000, (-1000000000)])).bind fun v3 =>
 (spec_l1Cur_pick v3.2 20).bind fun v4 =>
 (spec_l1Cur_pick v4.2 1000).bind fun v5 =>
 (spec_l1Cur_among v5.2 ([1, 2, 3, 4, 8, 7, (w64 (1 + v4.1)), (w64 (1 + v5.1)), 1000000000, 999999999])).bind fun v6 =>
 (spec_raMake v3.1 v6.1).bind fun v7 =>
 if (!v7.2) = true then
  (spec_raInt 1).bind fun v9 =>
  some (v9, v6.2)
 else
  some (v7.1, v6.2)
noncomputable def spec_l1Cur_anyRat (a0 : Cu) : Option (Qr × Cu) :=
 (spec_l1Cur_rat a0).bind fun v1 =>
 (spec_l1Cur_pick v1.2 40).bind fun v2 =>
 if (v2.1 == 0) = true then
  (spec_l1Cur_among v2.2 ([0, (-1), 1000000001])).bind fun v4 =>
  some ((v1.1.1, v4.1), v4.2)
 else
  if (v2.1 == 1) = true then
   (spec_l1Cur_among v2.2 ([1000000001, (-1000000001), (-9223372036854775808)])).bind fun v6 =>
   some ((v6.1, v1.1.2), v6.2)
  else
   if (v2.1 == 2) = true then
    (spec_l1Cur_among v2.2 ([2, 0, (-4)])).bind fun v8 =>
    (spec_l1Cur_among v8.2 ([2, 4, 6])).bind fun v9 =>
    some ((v8.1, v9.1), v9.2)
   else
    some (v1.1, v2.2)
noncomputable def impl_floorDivide (a0 : Int) (a1 : Int) : Option Int :=
 (guardO (a1 ≠ 0)).bind fun u1 =>
 if (decide ((Int.tmod a0 a1) < 0)) = true then
  some (w64 ((w64 (Int.tdiv a0 a1)) - 1))
 else
  some (w64 (Int.tdiv a0 a1))
noncomputable def impl_floor (a0 : Qr) : Option Int :=
 (impl_floorDivide a0.1 a0.2).bind fun v1 =>
 some v1
noncomputable def impl_negated (a0 : Qr) : Option Qr :=
 some ((w64 (0 - a0.1)), a0.2)
noncomputable def impl_within (a0 : Int) (a1 : Int) (a2 : Int) : Option Bool :=
 some ((decide (a1 ≤ a0)) && (decide (a0 ≤ a2)))
noncomputable def impl_abs (a0 : Int) : Option Int :=
 if (decide (a0 < 0)) = true then
  some (w64 (0 - a0))
 else
  some a0
noncomputable def impl_greatestDivisor_k1  (x3 : Int) : Option Int :=
 some x3
noncomputable def impl_greatestDivisor_b1  (x4 : Qr) : Option (Qr ⊕ Int) :=
 if (x4.2 != 0) = true then
  (guardO (x4.2 ≠ 0)).bind fun u7 =>
  some (.inl (x4.2, (Int.tmod x4.1 x4.2)))
 else
  some (.inr x4.1)
noncomputable def impl_greatestDivisor (a0 : Int) (a1 : Int) : Option Int :=
 (impl_abs a0).bind fun v1 =>
 (impl_abs a1).bind fun v2 =>
 (loopO impl_greatestDivisor_b1 (v1, v2)).bind fun y5 => impl_greatestDivisor_k1 y5
noncomputable def impl_isRat (a0 : Qr) : Option Bool :=
 (impl_within a0.2 1 1000000000).bind fun v1 =>
 (if v1 = true then
   (impl_within a0.1 (-1000000000) 1000000000).bind fun v2 =>
   if v2 = true then
    (impl_greatestDivisor a0.1 a0.2).bind fun v3 =>
    some (v3 == 1)
   else
    some false
  else
   some false).bind fun w4 =>
 some w4
noncomputable def impl_areRats_k1  (x1 : Unit) : Option Bool :=
 some true
noncomputable def impl_areRats_b1 (a0 : (List Qr)) (x2 : Int) : Option (Int ⊕ (Bool ⊕ Unit)) :=
 if (decide (x2 < (a0.length : Int))) = true then
  (idxO a0 x2).bind fun v5 =>
  (impl_isRat v5).bind fun v6 =>
  if (!v6) = true then
   some (.inr (.inl false))
  else
   some (.inl (w64 (x2 + 1)))
 else
  some (.inr (.inr ()))
noncomputable def impl_areRats (a0 : (List Qr)) : Option Bool :=
 (loopO (impl_areRats_b1 a0) 0).bind fun y3 => (Sum.elim (fun p => some p) (fun p => impl_areRats_k1 p)) y3
noncomputable def impl_lowest_k1 (a0 : Int) (a1 : Int) (x2 : Int) : Option (Qr × Bool) :=
 (guardO (x2 ≠ 0)).bind fun u3 =>
 (impl_isRat ((w64 (Int.tdiv a0 x2)), (w64 (Int.tdiv a1 x2)))).bind fun v4 =>
 if (!v4) = true then
  some ((0, 0), false)
 else
  some (((w64 (Int.tdiv a0 x2)), (w64 (Int.tdiv a1 x2))), true)
noncomputable def impl_lowest (a0 : Int) (a1 : Int) : Option (Qr × Bool) :=
 (impl_greatestDivisor a0 a1).bind fun v1 =>
 if (decide (a1 < 0)) = true then
  impl_lowest_k1 a0 a1 (w64 (0 - v1))
 else
  impl_lowest_k1 a0 a1 v1
noncomputable def impl_AddRats (a0 : Qr) (a1 : Qr) : Option (Qr × Bool) :=
 (impl_areRats ([a0, a1])).bind fun v1 =>
 if (!v1) = true then
  some ((0, 0), false)
 else
  (impl_lowest (w64 ((w64 (a0.1 * a1.2)) + (w64 (a1.1 * a0.2)))) (w64 (a0.2 * a1.2))).bind fun v3 =>
  some v3
noncomputable def impl_SubtractRats (a0 : Qr) (a1 : Qr) : Option (Qr × Bool) :=
 (impl_negated a1).bind fun v1 =>
 (impl_AddRats a0 v1).bind fun v2 =>
 some v2
noncomputable def impl_zero  : Option Qr :=
 some (0, 1)
noncomputable def impl_calc_keep (a0 : Bool) (a1 : Qr) (a2 : Bool) : Option (Qr × Bool) :=
 if (!a2) = true then
  (impl_zero).bind fun v2 =>
  some (v2, true)
 else
  some (a1, a0)
noncomputable def impl_calc_sub (a0 : Bool) (a1 : Qr) (a2 : Qr) : Option (Qr × Bool) :=
 (impl_SubtractRats a1 a2).bind fun v1 =>
 (impl_calc_keep a0 v1.1 v1.2).bind fun v2 =>
 some v2
noncomputable def slices_IndexFunc_Limpl_Point_impl_Point_k1  (x1 : Unit) : Option Int :=
 some (-1)
noncomputable def slices_IndexFunc_Limpl_Point_impl_Point_b1 (a0 : (List Qp)) (a1 : Qp → Option Bool) (x2 : Int) : Option (Int ⊕ (Int ⊕ Unit)) :=
 if (decide (x2 < (a0.length : Int))) = true then
  (idxO a0 x2).bind fun v5 =>
  (a1 v5).bind fun v6 =>
  if v6 = true then
   some (.inr (.inl x2))
  else
   some (.inl (w64 (x2 + 1)))
 else
  some (.inr (.inr ()))
noncomputable def slices_IndexFunc_Limpl_Point_impl_Point (a0 : (List Qp)) (a1 : (Qp → Option Bool)) : Option Int :=
 (loopO (slices_IndexFunc_Limpl_Point_impl_Point_b1 a0 a1) 0).bind fun y3 => (Sum.elim (fun p => some p) (fun p => slices_IndexFunc_Limpl_Point_impl_Point_k1 p)) y3
noncomputable def impl_compare (a0 : Qr) (a1 : Qr) : Option Int :=
 if (decide ((w64 (a0.1 * a1.2)) < (w64 (a1.1 * a0.2)))) = true then
  some (-1)
 else
  if (decide ((w64 (a0.1 * a1.2)) > (w64 (a1.1 * a0.2)))) = true then
   some 1
  else
   some 0
noncomputable def impl_less (a0 : Qr) (a1 : Qr) : Option Bool :=
 (impl_compare a0 a1).bind fun v1 =>
 some (decide (v1 < 0))
noncomputable def impl_pieceAt_1 (a0 : Qp) (c0 : Qr) : Option Bool :=
 (impl_less a0.1 c0).bind fun v1 =>
 some (!v1)
noncomputable def impl_pieceAt (a0 : (List Qp)) (a1 : Qr) : Option Int :=
 (slices_IndexFunc_Limpl_Point_impl_Point a0 (fun x0 => impl_pieceAt_1 x0 a1)).bind fun v1 =>
 some (if (w64 (v1 - 1)) < 0 then 0 else (w64 (v1 - 1)))
noncomputable def impl_DivideRats (a0 : Qr) (a1 : Qr) : Option (Qr × Bool) :=
 (impl_areRats ([a0, a1])).bind fun v1 =>
 if ((!v1) || (a1.1 == 0)) = true then
  some ((0, 0), false)
 else
  (impl_lowest (w64 (a0.1 * a1.2)) (w64 (a0.2 * a1.1))).bind fun v3 =>
  some v3
noncomputable def impl_calc_div (a0 : Bool) (a1 : Qr) (a2 : Qr) : Option (Qr × Bool) :=
 (impl_DivideRats a1 a2).bind fun v1 =>
 (impl_calc_keep a0 v1.1 v1.2).bind fun v2 =>
 some v2
noncomputable def impl_calc_slope (a0 : Bool) (a1 : Qp) (a2 : Qp) : Option (Qr × Bool) :=
 (impl_calc_sub a0 a2.2 a1.2).bind fun v1 =>
 (impl_calc_sub v1.2 a2.1 a1.1).bind fun v2 =>
 (impl_calc_div v2.2 v1.1 v2.1).bind fun v3 =>
 some v3
noncomputable def impl_MultiplyRats (a0 : Qr) (a1 : Qr) : Option (Qr × Bool) :=
 (impl_areRats ([a0, a1])).bind fun v1 =>
 if (!v1) = true then
  some ((0, 0), false)
 else
  (impl_lowest (w64 (a0.1 * a1.1)) (w64 (a0.2 * a1.2))).bind fun v3 =>
  some v3
noncomputable def impl_calc_mul (a0 : Bool) (a1 : Qr) (a2 : Qr) : Option (Qr × Bool) :=
 (impl_MultiplyRats a1 a2).bind fun v1 =>
 (impl_calc_keep a0 v1.1 v1.2).bind fun v2 =>
 some v2
noncomputable def impl_calc_add (a0 : Bool) (a1 : Qr) (a2 : Qr) : Option (Qr × Bool) :=
 (impl_AddRats a1 a2).bind fun v1 =>
 (impl_calc_keep a0 v1.1 v1.2).bind fun v2 =>
 some v2
noncomputable def impl_calc_line (a0 : Bool) (a1 : Qp) (a2 : Qr) (a3 : Qr) : Option (Qr × Bool) :=
 (impl_calc_sub a0 a3 a1.1).bind fun v1 =>
 (impl_calc_mul v1.2 a2 v1.1).bind fun v2 =>
 (impl_calc_add v2.2 a1.2 v2.1).bind fun v3 =>
 some v3
noncomputable def impl_calc_value (a0 : Bool) (a1 : (List Qp)) (a2 : Qr) : Option (Qr × Bool) :=
 (impl_pieceAt a1 a2).bind fun v1 =>
 (idxO a1 v1).bind fun v2 =>
 (idxO a1 (w64 (v1 + 1))).bind fun v3 =>
 (impl_calc_slope a0 v2 v3).bind fun v4 =>
 (impl_calc_line v4.2 v2 v4.1 a2).bind fun v5 =>
 some v5
noncomputable def impl_oneRat  : Option Qr :=
 some (1, 1)
noncomputable def slices_ContainsFunc_Limpl_Point_impl_Point (a0 : (List Qp)) (a1 : (Qp → Option Bool)) : Option Bool :=
 (slices_IndexFunc_Limpl_Point_impl_Point a0 a1).bind fun v1 =>
 some (decide (v1 ≥ 0))
noncomputable def impl_isUnit (a0 : Qr) : Option Bool :=
 (impl_isRat a0).bind fun v1 =>
 some (v1 && ((decide (a0.1 ≥ 0)) && (decide (a0.1 ≤ a0.2))))
noncomputable def impl_isCoord (a0 : Qr) : Option Bool :=
 (impl_isUnit a0).bind fun v1 =>
 some (v1 && (decide (a0.2 ≤ 100)))
noncomputable def spec_raDown (a0 : Int) (a1 : Int) : Option Int :=
 if (a1 == 0) = true then
  some 0
 else
  (guardO (a1 ≠ 0)).bind fun u2 =>
  if (decide ((Int.tmod a0 a1) < 0)) = true then
   some (w64 ((w64 (Int.tdiv a0 a1)) - 1))
  else
   some (w64 (Int.tdiv a0 a1))
noncomputable def spec_raFloor (a0 : Qr) : Option Int :=
 (spec_raDown a0.1 a0.2).bind fun v1 =>
 some v1
noncomputable def spec_imPiece_k1  (x1 : Int) : Option Int :=
 some x1
noncomputable def spec_imPiece_b1 (a0 : (List Qp)) (a1 : Qr) (x2 : Int) : Option (Int ⊕ Int) :=
 (if (decide ((w64 (x2 + 2)) < (a0.length : Int))) = true then
   (idxO a0 (w64 (x2 + 1))).bind fun v4 =>
   (spec_raCmp v4.1 a1).bind fun v5 =>
   some (decide (v5 < 0))
  else
   some false).bind fun w6 =>
 if w6 = true then
  some (.inl (w64 (x2 + 1)))
 else
  some (.inr x2)
noncomputable def spec_imPiece (a0 : (List Qp)) (a1 : Qr) : Option Int :=
 (loopO (spec_imPiece_b1 a0 a1) 0).bind fun y3 => spec_imPiece_k1 y3
noncomputable def spec_raSub (a0 : Qr) (a1 : Qr) : Option (Qr × Bool) :=
 (spec_raMake (w64 ((w64 (a0.1 * a1.2)) - (w64 (a1.1 * a0.2)))) (w64 (a0.2 * a1.2))).bind fun v1 =>
 some v1
noncomputable def spec_raDiv (a0 : Qr) (a1 : Qr) : Option (Qr × Bool) :=
 if (a1.1 == 0) = true then
  some ((0, 0), false)
 else
  (spec_raMake (w64 (a0.1 * a1.2)) (w64 (a0.2 * a1.1))).bind fun v2 =>
  some v2
noncomputable def spec_imSlope (a0 : Qp) (a1 : Qp) : Option Qr :=
 (spec_raSub a1.2 a0.2).bind fun v1 =>
 (spec_raSub a1.1 a0.1).bind fun v2 =>
 (spec_raDiv v1.1 v2.1).bind fun v3 =>
 some v3.1
noncomputable def spec_raMul (a0 : Qr) (a1 : Qr) : Option (Qr × Bool) :=
 (spec_raMake (w64 (a0.1 * a1.1)) (w64 (a0.2 * a1.2))).bind fun v1 =>
 some v1
noncomputable def spec_imOn (a0 : Qp) (a1 : Qp) (a2 : Qr) : Option (Qr × Bool) :=
 (spec_raSub a2 a0.1).bind fun v1 =>
 (spec_imSlope a0 a1).bind fun v2 =>
 (spec_raMul v1.1 v2).bind fun v3 =>
 if ((!v1.2) || (!v3.2)) = true then
  some ((0, 0), false)
 else
  (spec_raAdd a0.2 v3.1).bind fun v5 =>
  some v5
noncomputable def spec_imAt (a0 : (List Qp)) (a1 : Qr) : Option (Qr × Bool) :=
 (spec_imPiece a0 a1).bind fun v1 =>
 (idxO a0 v1).bind fun v2 =>
 (idxO a0 (w64 (v1 + 1))).bind fun v3 =>
 (spec_imOn v2 v3 a1).bind fun v4 =>
 some v4
noncomputable def slices_MinFunc_Limpl_Rat_impl_Rat_k2  (x3 : Qr) : Option Qr :=
 some x3
noncomputable def slices_MinFunc_Limpl_Rat_impl_Rat_b1 (a0 : (List Qr)) (a1 : Qr → Qr → Option Int) (x4 : (Int × Int × Int)) : Option ((Int × Int × Int) ⊕ Qr) :=
 if (decide (x4.2.2 < (a0.length : Int))) = true then
  (idxO a0 x4.2.2).bind fun v7 =>
  (a1 v7 (x4.1, x4.2.1)).bind fun v8 =>
  if (decide (v8 < 0)) = true then
   some (.inl (v7.1, v7.2, (w64 (x4.2.2 + 1))))
  else
   some (.inl (x4.1, x4.2.1, (w64 (x4.2.2 + 1))))
 else
  some (.inr (x4.1, x4.2.1))
noncomputable def slices_MinFunc_Limpl_Rat_impl_Rat_k1 (a0 : (List Qr)) (a1 : Qr → Qr → Option Int) (x1 : Unit) : Option Qr :=
 (idxO a0 0).bind fun v2 =>
 (loopO (slices_MinFunc_Limpl_Rat_impl_Rat_b1 a0 a1) (v2.1, v2.2, 1)).bind fun y5 => slices_MinFunc_Limpl_Rat_impl_Rat_k2 y5
noncomputable def slices_MinFunc_Limpl_Rat_impl_Rat (a0 : (List Qr)) (a1 : (Qr → Qr → Option Int)) : Option Qr :=
 if (decide ((a0.length : Int) < 1)) = true then
  none
 else
  slices_MinFunc_Limpl_Rat_impl_Rat_k1 a0 a1 ()
noncomputable def slices_MaxFunc_Limpl_Rat_impl_Rat_k2  (x3 : Qr) : Option Qr :=
 some x3
noncomputable def slices_MaxFunc_Limpl_Rat_impl_Rat_b1 (a0 : (List Qr)) (a1 : Qr → Qr → Option Int) (x4 : (Int × Int × Int)) : Option ((Int × Int × Int) ⊕ Qr) :=
 if (decide (x4.2.2 < (a0.length : Int))) = true then
  (idxO a0 x4.2.2).bind fun v7 =>
  (a1 v7 (x4.1, x4.2.1)).bind fun v8 =>
  if (decide (v8 > 0)) = true then
   some (.inl (v7.1, v7.2, (w64 (x4.2.2 + 1))))
  else
   some (.inl (x4.1, x4.2.1, (w64 (x4.2.2 + 1))))
 else
  some (.inr (x4.1, x4.2.1))
noncomputable def slices_MaxFunc_Limpl_Rat_impl_Rat_k1 (a0 : (List Qr)) (a1 : Qr → Qr → Option Int) (x1 : Unit) : Option Qr :=
 (idxO a0 0).bind fun v2 =>
 (loopO (slices_MaxFunc_Limpl_Rat_impl_Rat_b1 a0 a1) (v2.1, v2.2, 1)).bind fun y5 => slices_MaxFunc_Limpl_Rat_impl_Rat_k2 y5
noncomputable def slices_MaxFunc_Limpl_Rat_impl_Rat (a0 : (List Qr)) (a1 : (Qr → Qr → Option Int)) : Option Qr :=
 if (decide ((a0.length : Int) < 1)) = true then
  none
 else
  slices_MaxFunc_Limpl_Rat_impl_Rat_k1 a0 a1 ()
noncomputable def spec_imMirror (a0 : Qr) : Option Qr :=
 some ((w64 (a0.2 - a0.1)), a0.2)
noncomputable def spec_l1Cur_imGrid_k3  (x6 : ((List Int) × Int × Int × (List Qp))) : Option ((List Qp) × Cu) :=
 some (x6.2.2.2, (x6.1, x6.2.1, x6.2.2.1))
noncomputable def spec_l1Cur_imGrid_b1 (a1 : Int) (x5 : ((List Int) × Int × Int × (List Qr))) (x7 : ((List Int) × Int × Int × (List Qp) × Int)) : Option (((List Int) × Int × Int × (List Qp) × Int) ⊕ ((List Int) × Int × Int × (List Qp))) :=
 if (decide (x7.2.2.2.2 < (x5.2.2.2.length : Int))) = true then
  (idxO x5.2.2.2 x7.2.2.2.2).bind fun v10 =>
  (spec_l1Cur_gridRat (x7.1, x7.2.1, x7.2.2.1) a1).bind fun v11 =>
  (guardO (x7.2.2.2.1.length + ([(v10, v11.1)]).length ≤ 1099511627776)).bind fun u12 =>
  some (.inl (v11.2.1, v11.2.2.1, v11.2.2.2, (x7.2.2.2.1 ++ [(v10, v11.1)]), (w64 (x7.2.2.2.2 + 1))))
 else
  some (.inr (x7.1, x7.2.1, x7.2.2.1, x7.2.2.2.1))
noncomputable def spec_l1Cur_imGrid_k2 (a1 : Int) (x5 : ((List Int) × Int × Int × (List Qr))) : Option ((List Qp) × Cu) :=
 (loopO (spec_l1Cur_imGrid_b1 a1 x5) (x5.1, x5.2.1, x5.2.2.1, [], 0)).bind fun y8 => spec_l1Cur_imGrid_k3 y8
noncomputable def spec_l1Cur_imGrid_b2 (a1 : Int) (x2 : ((List Int) × Int × Int × Int)) (x13 : ((List Int) × Int × Int × (List Qr) × Int)) : Option (((List Int) × Int × Int × (List Qr) × Int) ⊕ ((List Int) × Int × Int × (List Qr))) :=
 if ((decide ((x13.2.2.2.1.length : Int) < (w64 (x2.2.2.2 + 2)))) && (decide (x13.2.2.2.2 < 60))) = true then
  (spec_l1Cur_gridRat (x13.1, x13.2.1, x13.2.2.1) a1).bind fun v16 =>
  (spec_imPut x13.2.2.2.1 v16.1).bind fun v17 =>
  some (.inl (v16.2.1, v16.2.2.1, v16.2.2.2, v17, (w64 (x13.2.2.2.2 + 1))))
 else
  some (.inr (x13.1, x13.2.1, x13.2.2.1, x13.2.2.2.1))
noncomputable def spec_l1Cur_imGrid_k1 (a1 : Int) (x2 : ((List Int) × Int × Int × Int)) : Option ((List Qp) × Cu) :=
 (spec_raInt 0).bind fun v3 =>
 (spec_raInt 1).bind fun v4 =>
 (loopO (spec_l1Cur_imGrid_b2 a1 x2) (x2.1, x2.2.1, x2.2.2.1, [v3, v4], 0)).bind fun y14 => spec_l1Cur_imGrid_k2 a1 y14
noncomputable def spec_l1Cur_imGrid (a0 : Cu) (a1 : Int) : Option ((List Qp) × Cu) :=
 (spec_l1Cur_among a0 ([0, 1, 1, 2, 3])).bind fun v1 =>
 (spec_l1Cur_one v1.2 16).bind fun v18 =>
 if v18.1 = true then
  spec_l1Cur_imGrid_k1 a1 (v18.2.1, v18.2.2.1, v18.2.2.2, 10)
 else
  spec_l1Cur_imGrid_k1 a1 (v18.2.1, v18.2.2.1, v18.2.2.2, v1.1)
noncomputable def spec_l1Cur_im_k1  (x3 : ((List Int) × Int × Int × (List Qp))) : Option ((List Qp) × Cu) :=
 some (x3.2.2.2, (x3.1, x3.2.1, x3.2.2.1))
noncomputable def spec_l1Cur_im_k2 (v1 : (Int × Cu)) (v6 : (Int × Cu)) (x7 : (List Qp)) : Option ((List Qp) × Cu) :=
 (spec_l1Cur_one v6.2 2).bind fun v8 =>
 if v8.1 = true then
  (spec_l1Cur_gridRat v8.2 v1.1).bind fun v10 =>
  (idxO x7 1).bind fun v11 =>
  spec_l1Cur_im_k1 (v10.2.1, v10.2.2.1, v10.2.2.2, (x7.set (Int.toNat 1) (v11.1, v10.1)))
 else
  spec_l1Cur_im_k1 (v8.2.1, v8.2.2.1, v8.2.2.2, x7)
noncomputable def spec_l1Cur_im_b1 (v6 : (Int × Cu)) (x12 : ((List Qp) × Int)) : Option (((List Qp) × Int) ⊕ (List Qp)) :=
 if (decide (x12.2 ≤ v6.1)) = true then
  (spec_raMake x12.2 v6.1).bind fun v15 =>
  (spec_raInt (Int.tmod x12.2 2)).bind fun v16 =>
  (guardO (x12.1.length + ([(v15.1, v16)]).length ≤ 1099511627776)).bind fun u17 =>
  some (.inl ((x12.1 ++ [(v15.1, v16)]), (w64 (x12.2 + 1))))
 else
  some (.inr x12.1)
noncomputable def spec_l1Cur_im (a0 : Cu) : Option ((List Qp) × Cu) :=
 (spec_l1Cur_among a0 ([1, 2, 2, 3, 4, 4, 6, 12, 100])).bind fun v1 =>
 (spec_l1Cur_imGrid v1.2 v1.1).bind fun v2 =>
 (spec_l1Cur_one v2.2 3).bind fun v4 =>
 if v4.1 = true then
  (spec_l1Cur_among v4.2 ([2, 2, 3, 4])).bind fun v6 =>
  (loopO (spec_l1Cur_im_b1 v6) ([], 0)).bind fun y13 => spec_l1Cur_im_k2 v1 v6 y13
 else
  spec_l1Cur_im_k1 (v4.2.1, v4.2.2.1, v4.2.2.2, v2.1)
noncomputable def spec_l1Cur_anyIm_k1  (x4 : ((List Int) × Int × Int × (List Qp))) : Option ((List Qp) × Cu) :=
 some (x4.2.2.2, (x4.1, x4.2.1, x4.2.2.1))
noncomputable def spec_l1Cur_anyIm_b1 (v5 : (Int × Cu)) (x16 : (List Qp)) : Option ((List Qp) ⊕ ((List Int) × Int × Int × (List Qp))) :=
 if (decide ((x16.length : Int) < 13)) = true then
  (spec_raMake (x16.length : Int) 12).bind fun v19 =>
  (spec_raInt 0).bind fun v20 =>
  (guardO (x16.length + ([(v19.1, v20)]).length ≤ 1099511627776)).bind fun u21 =>
  some (.inl (x16 ++ [(v19.1, v20)]))
 else
  some (.inr (v5.2.1, v5.2.2.1, v5.2.2.2, x16))
noncomputable def spec_l1Cur_anyIm (a0 : Cu) : Option ((List Qp) × Cu) :=
 (spec_l1Cur_im a0).bind fun v1 =>
 (spec_l1Cur_pick v1.2 (v1.1.length : Int)).bind fun v2 =>
 (idxO v1.1 v2.1).bind fun v3 =>
 (spec_l1Cur_pick v2.2 36).bind fun v5 =>
 if (v5.1 == 0) = true then
  (spec_l1Cur_anyRat v5.2).bind fun v7 =>
  spec_l1Cur_anyIm_k1 (v7.2.1, v7.2.2.1, v7.2.2.2, (v1.1.set (Int.toNat v2.1) (v7.1, v3.2)))
 else
  if (v5.1 == 1) = true then
   (spec_l1Cur_anyRat v5.2).bind fun v9 =>
   spec_l1Cur_anyIm_k1 (v9.2.1, v9.2.2.1, v9.2.2.2, (v1.1.set (Int.toNat v2.1) (v3.1, v9.1)))
  else
   if (v5.1 == 2) = true then
    (spec_l1Cur_pick v5.2 50).bind fun v11 =>
    (spec_raMake v11.1 101).bind fun v12 =>
    spec_l1Cur_anyIm_k1 (v11.2.1, v11.2.2.1, v11.2.2.2, (v1.1.set (Int.toNat v2.1) (v3.1, v12.1)))
   else
    if (v5.1 == 3) = true then
     (guardO (0 ≤ (w64 ((v1.1.length : Int) - 1)) ∧ (w64 ((v1.1.length : Int) - 1)) ≤ (v1.1.length : Int))).bind fun u14 =>
     spec_l1Cur_anyIm_k1 (v5.2.1, v5.2.2.1, v5.2.2.2, (v1.1.take (Int.toNat (w64 ((v1.1.length : Int) - 1)))))
    else
     if (v5.1 == 4) = true then
      (loopO (spec_l1Cur_anyIm_b1 v5) ([])).bind fun y17 => spec_l1Cur_anyIm_k1 y17
     else
      spec_l1Cur_anyIm_k1 (v5.2.1, v5.2.2.1, v5.2.2.2, v1.1)
noncomputable def spec_l1Cur_strictMap_k2  (x6 : ((List Int) × Int × Int × (List Qp))) : Option ((List Qp) × Cu) :=
 (spec_l1Cur_one (x6.1, x6.2.1, x6.2.2.1) 5).bind fun v7 =>
 if v7.1 = true then
  (spec_l1Cur_pick v7.2 3).bind fun v9 =>
  (spec_raMake (w64 (1 + v9.1)) 4).bind fun v10 =>
  (spec_l1Cur_pick v9.2 6).bind fun v11 =>
  (spec_raMake (w64 (3 + v11.1)) 8).bind fun v12 =>
  (spec_raInt 0).bind fun v13 =>
  (spec_raInt 0).bind fun v14 =>
  (spec_raInt 1).bind fun v15 =>
  (spec_raInt 0).bind fun v16 =>
  some ([(v13, v14), (v10.1, v12.1), (v15, v16)], v11.2)
 else
  some (x6.2.2.2, v7.2)
noncomputable def spec_l1Cur_strictMap_b1 (v17 : (Bool × Cu)) (x19 : ((List Qp) × Int)) : Option (((List Qp) × Int) ⊕ ((List Int) × Int × Int × (List Qp))) :=
 if (decide (x19.2 < 12)) = true then
  (spec_raMake x19.2 11).bind fun v22 =>
  (spec_raInt (Int.tmod x19.2 2)).bind fun v23 =>
  (guardO (x19.1.length + ([(v22.1, v23)]).length ≤ 1099511627776)).bind fun u24 =>
  some (.inl ((x19.1 ++ [(v22.1, v23)]), (w64 (x19.2 + 1))))
 else
  some (.inr (v17.2.1, v17.2.2.1, v17.2.2.2, x19.1))
noncomputable def spec_l1Cur_strictMap_k1  (x5 : ((List Int) × Int × Int × (List Qp))) : Option ((List Qp) × Cu) :=
 (spec_l1Cur_one (x5.1, x5.2.1, x5.2.2.1) 6).bind fun v17 =>
 if v17.1 = true then
  (loopO (spec_l1Cur_strictMap_b1 v17) ([], 0)).bind fun y20 => spec_l1Cur_strictMap_k2 y20
 else
  spec_l1Cur_strictMap_k2 (v17.2.1, v17.2.2.1, v17.2.2.2, x5.2.2.2)
noncomputable def spec_l1Cur_strictMap_k3 (x25 : ((List Int) × Int × Int × (List Qp) × Int)) (v28 : (Qr × Bool)) (x30 : ((List Int) × Int × Int × Int × Int)) : Option (((List Int) × Int × Int × (List Qp) × Int) ⊕ ((List Int) × Int × Int × (List Qp))) :=
 (guardO (x25.2.2.2.1.length + ([(v28.1, x30.2.2.2)]).length ≤ 1099511627776)).bind fun u31 =>
 some (.inl (x30.1, x30.2.1, x30.2.2.1, (x25.2.2.2.1 ++ [(v28.1, x30.2.2.2)]), (w64 (x25.2.2.2.2 + 1))))
noncomputable def spec_l1Cur_strictMap_b2 (v4 : (Int × Cu)) (x25 : ((List Int) × Int × Int × (List Qp) × Int)) : Option (((List Int) × Int × Int × (List Qp) × Int) ⊕ ((List Int) × Int × Int × (List Qp))) :=
 if (decide (x25.2.2.2.2 ≤ v4.1)) = true then
  (spec_raMake x25.2.2.2.2 v4.1).bind fun v28 =>
  (spec_l1Cur_gridRat (x25.1, x25.2.1, x25.2.2.1) v4.1).bind fun v29 =>
  (if (decide ((x25.2.2.2.1.length : Int) > 0)) = true then
    (idxO x25.2.2.2.1 (w64 ((x25.2.2.2.1.length : Int) - 1))).bind fun v32 =>
    if ((v29.1.1 == v32.2.1) && (v29.1.2 == v32.2.2)) = true then
     (spec_l1Cur_one v29.2 8).bind fun v33 =>
     some (v33.2.1, v33.2.2.1, v33.2.2.2, (!v33.1))
    else
     some (v29.2.1, v29.2.2.1, v29.2.2.2, false)
   else
    some (v29.2.1, v29.2.2.1, v29.2.2.2, false)).bind fun w34 =>
  if w34.2.2.2 = true then
   (spec_imMirror v29.1).bind fun v36 =>
   (idxO x25.2.2.2.1 (w64 ((x25.2.2.2.1.length : Int) - 1))).bind fun v37 =>
   if ((v36.1 == v37.2.1) && (v36.2 == v37.2.2)) = true then
    (spec_raInt (Int.tmod x25.2.2.2.2 2)).bind fun v39 =>
    spec_l1Cur_strictMap_k3 x25 v28 (w34.1, w34.2.1, w34.2.2.1, v39.1, v39.2)
   else
    spec_l1Cur_strictMap_k3 x25 v28 (w34.1, w34.2.1, w34.2.2.1, v36.1, v36.2)
  else
   spec_l1Cur_strictMap_k3 x25 v28 (w34.1, w34.2.1, w34.2.2.1, v29.1.1, v29.1.2)
 else
  some (.inr (x25.1, x25.2.1, x25.2.2.1, x25.2.2.2.1))
noncomputable def spec_l1Cur_strictMap (a0 : Cu) : Option ((List Qp) × Cu) :=
 (spec_l1Cur_one a0 4).bind fun v1 =>
 if v1.1 = true then
  (spec_l1Cur_anyIm v1.2).bind fun v3 =>
  some v3
 else
  (spec_l1Cur_among v1.2 ([2, 3, 4, 4, 6])).bind fun v4 =>
  (loopO (spec_l1Cur_strictMap_b2 v4) (v4.2.1, v4.2.2.1, v4.2.2.2, [], 0)).bind fun y26 => spec_l1Cur_strictMap_k1 y26
noncomputable def laws_pLess (a0 : Qr) (a1 : Qr) : Option Bool :=
 some (decide ((w64 (a0.1 * a1.2)) < (w64 (a1.1 * a0.2))))
noncomputable def impl_isMap_1 (a0 : Qp) : Option Bool :=
 (impl_isCoord a0.1).bind fun v1 =>
 (if (!v1) = true then
   some true
  else
   (impl_isCoord a0.2).bind fun v2 =>
   some (!v2)).bind fun w3 =>
 some w3
noncomputable def impl_xsOf_k1  (x1 : (List Qr)) : Option (List Qr) :=
 some x1
noncomputable def impl_xsOf_b1 (a0 : (List Qp)) (x2 : ((List Qr) × Int)) : Option (((List Qr) × Int) ⊕ (List Qr)) :=
 if (decide (x2.2 < (a0.length : Int))) = true then
  (idxO a0 x2.2).bind fun v5 =>
  (guardO (x2.1.length + ([v5.1]).length ≤ 1099511627776)).bind fun u6 =>
  some (.inl ((x2.1 ++ [v5.1]), (w64 (x2.2 + 1))))
 else
  some (.inr x2.1)
noncomputable def impl_xsOf (a0 : (List Qp)) : Option (List Qr) :=
 (loopO (impl_xsOf_b1 a0) ([], 0)).bind fun y3 => impl_xsOf_k1 y3
noncomputable def impl_isRising_k1  (x1 : Unit) : Option Bool :=
 some true
noncomputable def impl_isRising_b1 (a0 : (List Qr)) (x2 : Int) : Option (Int ⊕ (Bool ⊕ Unit)) :=
 if (decide (x2 < (a0.length : Int))) = true then
  (idxO a0 (w64 (x2 - 1))).bind fun v5 =>
  (idxO a0 x2).bind fun v6 =>
  (impl_less v5 v6).bind fun v7 =>
  if (!v7) = true then
   some (.inr (.inl false))
  else
   some (.inl (w64 (x2 + 1)))
 else
  some (.inr (.inr ()))
noncomputable def impl_isRising (a0 : (List Qr)) : Option Bool :=
 (loopO (impl_isRising_b1 a0) 1).bind fun y3 => (Sum.elim (fun p => some p) (fun p => impl_isRising_k1 p)) y3
noncomputable def impl_isMap (a0 : (List Qp)) : Option Bool :=
 (impl_within (a0.length : Int) 2 12).bind fun v1 =>
 (if (!v1) = true then
   some true
  else
   (slices_ContainsFunc_Limpl_Point_impl_Point a0 (fun x0 => impl_isMap_1 x0)).bind fun v2 =>
   some v2).bind fun w3 =>
 if w3 = true then
  some false
 else
  (idxO a0 0).bind fun v5 =>
  (impl_zero).bind fun v6 =>
  (if ((v5.1.1 == v6.1) && (v5.1.2 == v6.2)) = true then
    (idxO a0 (w64 ((a0.length : Int) - 1))).bind fun v7 =>
    (impl_oneRat).bind fun v8 =>
    if ((v7.1.1 == v8.1) && (v7.1.2 == v8.2)) = true then
     (impl_xsOf a0).bind fun v9 =>
     (impl_isRising v9).bind fun v10 =>
     some v10
    else
     some false
   else
    some false).bind fun w11 =>
  some w11
noncomputable def impl_slopes_k1  (x1 : (List Qr)) : Option (List Qr) :=
 some x1
noncomputable def impl_slopes_b1 (a0 : (List Qp)) (x2 : (Bool × (List Qr) × Int)) : Option ((Bool × (List Qr) × Int) ⊕ (List Qr)) :=
 if (decide (x2.2.2 < (a0.length : Int))) = true then
  (idxO a0 (w64 (x2.2.2 - 1))).bind fun v5 =>
  (idxO a0 x2.2.2).bind fun v6 =>
  (impl_calc_slope x2.1 v5 v6).bind fun v7 =>
  (guardO (x2.2.1.length + ([v7.1]).length ≤ 1099511627776)).bind fun u8 =>
  some (.inl (v7.2, (x2.2.1 ++ [v7.1]), (w64 (x2.2.2 + 1))))
 else
  some (.inr x2.2.1)
noncomputable def impl_slopes (a0 : (List Qp)) : Option (List Qr) :=
 (loopO (impl_slopes_b1 a0) (false, [], 1)).bind fun y3 => impl_slopes_k1 y3
noncomputable def slices_IndexFunc_Limpl_Rat_impl_Rat_k1  (x1 : Unit) : Option Int :=
 some (-1)
noncomputable def slices_IndexFunc_Limpl_Rat_impl_Rat_b1 (a0 : (List Qr)) (a1 : Qr → Option Bool) (x2 : Int) : Option (Int ⊕ (Int ⊕ Unit)) :=
 if (decide (x2 < (a0.length : Int))) = true then
  (idxO a0 x2).bind fun v5 =>
  (a1 v5).bind fun v6 =>
  if v6 = true then
   some (.inr (.inl x2))
  else
   some (.inl (w64 (x2 + 1)))
 else
  some (.inr (.inr ()))
noncomputable def slices_IndexFunc_Limpl_Rat_impl_Rat (a0 : (List Qr)) (a1 : (Qr → Option Bool)) : Option Int :=
 (loopO (slices_IndexFunc_Limpl_Rat_impl_Rat_b1 a0 a1) 0).bind fun y3 => (Sum.elim (fun p => some p) (fun p => slices_IndexFunc_Limpl_Rat_impl_Rat_k1 p)) y3
noncomputable def slices_ContainsFunc_Limpl_Rat_impl_Rat (a0 : (List Qr)) (a1 : (Qr → Option Bool)) : Option Bool :=
 (slices_IndexFunc_Limpl_Rat_impl_Rat a0 a1).bind fun v1 =>
 some (decide (v1 ≥ 0))
noncomputable def impl_isLapMap_1 (a0 : Qr) : Option Bool :=
 some (a0.1 == 0)
noncomputable def impl_isLapMap (a0 : (List Qp)) : Option Bool :=
 (impl_isMap a0).bind fun v1 =>
 (if v1 = true then
   (impl_slopes a0).bind fun v2 =>
   (slices_ContainsFunc_Limpl_Rat_impl_Rat v2 (fun x0 => impl_isLapMap_1 x0)).bind fun v3 =>
   some (!v3)
  else
   some false).bind fun w4 =>
 some w4
noncomputable def impl_isStrict (a0 : (List Qp)) : Option Bool :=
 (impl_isLapMap a0).bind fun v1 =>
 some v1
noncomputable def impl_lesser (a0 : Qr) (a1 : Qr) : Option Qr :=
 (impl_less a1 a0).bind fun v1 =>
 if v1 = true then
  some a1
 else
  some a0
noncomputable def impl_greater (a0 : Qr) (a1 : Qr) : Option Qr :=
 (impl_less a0 a1).bind fun v1 =>
 if v1 = true then
  some a1
 else
  some a0
noncomputable def slices_Clone_Limpl_Rat_impl_Rat (a0 : (List Qr)) : Option (List Qr) :=
 (guardO (a0.length ≤ 1099511627776)).bind fun u2 =>
 some a0
noncomputable def slices_DeleteFunc_Limpl_Rat_impl_Rat_k1  (x3 : ((List Qr) × Int)) : Option (List Qr) :=
 (guardO (0 ≤ x3.2 ∧ x3.2 ≤ (x3.1.length : Int))).bind fun u4 =>
 (guardO (0 ≤ x3.2 ∧ x3.2 ≤ ((x3.1.take (Int.toNat x3.2) ++ List.replicate (x3.1.length - (Int.toNat x3.2)) (0, 0)).length : Int))).bind fun u5 =>
 some ((x3.1.take (Int.toNat x3.2) ++ List.replicate (x3.1.length - (Int.toNat x3.2)) (0, 0)).take (Int.toNat x3.2))
noncomputable def slices_DeleteFunc_Limpl_Rat_impl_Rat_b1 (a1 : Qr → Option Bool) (x6 : ((List Qr) × Int × Int)) : Option (((List Qr) × Int × Int) ⊕ ((List Qr) × Int)) :=
 if (decide (x6.2.2 < (x6.1.length : Int))) = true then
  (idxO x6.1 x6.2.2).bind fun v9 =>
  (a1 v9).bind fun v10 =>
  if (!v10) = true then
   (idxO x6.1 x6.2.1).bind fun v12 =>
   some (.inl ((x6.1.set (Int.toNat x6.2.1) v9), (w64 (x6.2.1 + 1)), (w64 (x6.2.2 + 1))))
  else
   some (.inl (x6.1, x6.2.1, (w64 (x6.2.2 + 1))))
 else
  some (.inr (x6.1, x6.2.1))
noncomputable def slices_DeleteFunc_Limpl_Rat_impl_Rat (a0 : (List Qr)) (a1 : (Qr → Option Bool)) : Option (List Qr) :=
 (slices_IndexFunc_Limpl_Rat_impl_Rat a0 a1).bind fun v1 =>
 if (v1 == (-1)) = true then
  some a0
 else
  (loopO (slices_DeleteFunc_Limpl_Rat_impl_Rat_b1 a1) (a0, v1, (w64 (v1 + 1)))).bind fun y7 => slices_DeleteFunc_Limpl_Rat_impl_Rat_k1 y7
noncomputable def impl_cutsBetween_1 (a0 : Qr) (c0 : Qr) (c1 : Qr) : Option Bool :=
 (impl_less c0 a0).bind fun v1 =>
 (if (!v1) = true then
   some true
  else
   (impl_less a0 c1).bind fun v2 =>
   some (!v2)).bind fun w3 =>
 some w3
noncomputable def slices_Reverse_Limpl_Rat_impl_Rat_b1  (x1 : ((List Qr) × Int × Int)) : Option (((List Qr) × Int × Int) ⊕ (List Qr)) :=
 if (decide (x1.2.1 < x1.2.2)) = true then
  (idxO x1.1 x1.2.1).bind fun v4 =>
  (idxO x1.1 x1.2.2).bind fun v5 =>
  (guardO (x1.2.1 ≠ x1.2.2)).bind fun u6 =>
  some (.inl (((x1.1.set (Int.toNat x1.2.1) v5).set (Int.toNat x1.2.2) v4), (w64 (x1.2.1 + 1)), (w64 (x1.2.2 - 1))))
 else
  some (.inr x1.1)
noncomputable def slices_Reverse_Limpl_Rat_impl_Rat (a0 : (List Qr)) : Option (List Qr) :=
 (loopO slices_Reverse_Limpl_Rat_impl_Rat_b1 (a0, 0, (w64 ((a0.length : Int) - 1)))).bind fun y2 => some y2
noncomputable def impl_cutsBetween (a0 : (List Qr)) (a1 : Qr) (a2 : Qr) : Option (List Qr) :=
 (impl_lesser a1 a2).bind fun v1 =>
 (impl_greater a1 a2).bind fun v2 =>
 (slices_Clone_Limpl_Rat_impl_Rat a0).bind fun v3 =>
 (slices_DeleteFunc_Limpl_Rat_impl_Rat v3 (fun x0 => impl_cutsBetween_1 x0 v1 v2)).bind fun v4 =>
 (impl_less a2 a1).bind fun v5 =>
 if v5 = true then
  (slices_Reverse_Limpl_Rat_impl_Rat v4).bind fun v7 =>
  some v7
 else
  some v4
noncomputable def impl_sign (a0 : Qr) : Option Int :=
 (impl_zero).bind fun v1 =>
 (impl_compare a0 v1).bind fun v2 =>
 some v2
noncomputable def impl_laps_k1  (x1 : (List (List Int))) : Option (List (List Int)) :=
 some x1
noncomputable def impl_laps_b1 (v2 : (List Qr)) (x3 : ((List (List Int)) × Int)) : Option (((List (List Int)) × Int) ⊕ (List (List Int))) :=
 if (decide (x3.2 < (v2.length : Int))) = true then
  (idxO v2 x3.2).bind fun v6 =>
  (if (decide ((w64 ((x3.1.length : Int) - 1)) ≥ 0)) = true then
    (idxO x3.1 (w64 ((x3.1.length : Int) - 1))).bind fun v7 =>
    (idxO v7 2).bind fun v8 =>
    (impl_sign v6).bind fun v9 =>
    some (v8 == v9)
   else
    some false).bind fun w10 =>
  if w10 = true then
   (idxO x3.1 (w64 ((x3.1.length : Int) - 1))).bind fun v12 =>
   (idxO v12 1).bind fun v13 =>
   some (.inl ((x3.1.set (Int.toNat (w64 ((x3.1.length : Int) - 1))) (v12.set (Int.toNat 1) (w64 (x3.2 + 1)))), (w64 (x3.2 + 1))))
  else
   (impl_sign v6).bind fun v14 =>
   (guardO (x3.1.length + ([[x3.2, (w64 (x3.2 + 1)), v14]]).length ≤ 1099511627776)).bind fun u15 =>
   some (.inl ((x3.1 ++ [[x3.2, (w64 (x3.2 + 1)), v14]]), (w64 (x3.2 + 1))))
 else
  some (.inr x3.1)
noncomputable def impl_laps (a0 : (List Qp)) : Option (List (List Int)) :=
 (impl_slopes a0).bind fun v2 =>
 (loopO (impl_laps_b1 v2) ([], 0)).bind fun y4 => impl_laps_k1 y4
noncomputable def impl_turns_k1  (x1 : (List Qr)) : Option (List Qr) :=
 some x1
noncomputable def impl_turns_b1 (a0 : (List Qp)) (v2 : (List (List Int))) (x4 : ((List Qr) × Int)) : Option (((List Qr) × Int) ⊕ (List Qr)) :=
 if (decide (x4.2 < ((v2.drop (Int.toNat 1)).length : Int))) = true then
  (idxO (v2.drop (Int.toNat 1)) x4.2).bind fun v7 =>
  (idxO v7 0).bind fun v8 =>
  (idxO a0 v8).bind fun v9 =>
  (guardO (x4.1.length + ([v9.1]).length ≤ 1099511627776)).bind fun u10 =>
  some (.inl ((x4.1 ++ [v9.1]), (w64 (x4.2 + 1))))
 else
  some (.inr x4.1)
noncomputable def impl_turns (a0 : (List Qp)) : Option (List Qr) :=
 (impl_laps a0).bind fun v2 =>
 (guardO (0 ≤ 1 ∧ 1 ≤ (v2.length : Int))).bind fun u3 =>
 (loopO (impl_turns_b1 a0 v2) ([], 0)).bind fun y5 => impl_turns_k1 y5
noncomputable def impl_iterates_k1  (x4 : (List (List Qr))) : Option ((List (List Qr)) × Bool) :=
 some (x4, true)
noncomputable def impl_iterates_k2 (x5 : (Bool × (List (List Qr)) × Int)) (x8 : (Bool × (List (List Qr)))) : Option ((Bool × (List (List Qr)) × Int) ⊕ (((List (List Qr)) × Bool) ⊕ (List (List Qr)))) :=
 some (.inl (x8.1, x8.2, (w64 (x5.2.2 + 1))))
noncomputable def impl_iterates_k3 (x5 : (Bool × (List (List Qr)) × Int)) (x12 : (Bool × (List Qr))) : Option ((Bool × (List (List Qr)) × Int) ⊕ (((List (List Qr)) × Bool) ⊕ (List (List Qr)))) :=
 if (x12.1 || (decide ((w64 ((x12.2.length : Int) - 1)) > 4096))) = true then
  some (.inr (.inl ([], false)))
 else
  (guardO (x5.2.1.length + ([x12.2]).length ≤ 1099511627776)).bind fun u14 =>
  impl_iterates_k2 x5 (x12.1, (x5.2.1 ++ [x12.2]))
noncomputable def impl_iterates_k4 (x15 : (Bool × (List Qr) × Int)) (x18 : (Bool × (List Qr))) : Option ((Bool × (List Qr) × Int) ⊕ (Bool × (List Qr))) :=
 some (.inl (x18.1, x18.2, (w64 (x15.2.2 + 1))))
noncomputable def impl_iterates_k5 (a0 : (List Qp)) (v9 : (List Qr)) (x15 : (Bool × (List Qr) × Int)) (x19 : (Bool × (List Qr))) : Option ((Bool × (List Qr) × Int) ⊕ (Bool × (List Qr))) :=
 (idxO v9 x15.2.2).bind fun v20 =>
 (impl_calc_value x19.1 a0 v20).bind fun v21 =>
 (guardO (x19.2.length + ([v21.1]).length ≤ 1099511627776)).bind fun u22 =>
 impl_iterates_k4 x15 (v21.2, (x19.2 ++ [v21.1]))
noncomputable def impl_iterates_b3 (a0 : (List Qp)) (v25 : (List Qr)) (x26 : (Bool × (List Qr) × Int)) : Option ((Bool × (List Qr) × Int) ⊕ (Bool × (List Qr))) :=
 if (decide (x26.2.2 < (v25.length : Int))) = true then
  (idxO v25 x26.2.2).bind fun v29 =>
  (impl_calc_value x26.1 a0 v29).bind fun v30 =>
  (guardO (x26.2.1.length + ([v30.1]).length ≤ 1099511627776)).bind fun u31 =>
  some (.inl (v30.2, (x26.2.1 ++ [v30.1]), (w64 (x26.2.2 + 1))))
 else
  some (.inr (x26.1, x26.2.1))
noncomputable def impl_iterates_b2 (a0 : (List Qp)) (v3 : (List Qr)) (v9 : (List Qr)) (x15 : (Bool × (List Qr) × Int)) : Option ((Bool × (List Qr) × Int) ⊕ (Bool × (List Qr))) :=
 if (decide (x15.2.2 < (v9.length : Int))) = true then
  (idxO v9 (w64 (x15.2.2 - 1))).bind fun v23 =>
  (idxO v9 x15.2.2).bind fun v24 =>
  (impl_cutsBetween v3 v23 v24).bind fun v25 =>
  (loopO (impl_iterates_b3 a0 v25) (x15.1, x15.2.1, 0)).bind fun y27 => impl_iterates_k5 a0 v9 x15 y27
 else
  some (.inr (x15.1, x15.2.1))
noncomputable def impl_iterates_b1 (a0 : (List Qp)) (a1 : Int) (v3 : (List Qr)) (x5 : (Bool × (List (List Qr)) × Int)) : Option ((Bool × (List (List Qr)) × Int) ⊕ (((List (List Qr)) × Bool) ⊕ (List (List Qr)))) :=
 if (decide (x5.2.2 < a1)) = true then
  (idxO x5.2.1 (w64 ((x5.2.1.length : Int) - 1))).bind fun v9 =>
  (idxO v9 0).bind fun v10 =>
  (impl_calc_value x5.1 a0 v10).bind fun v11 =>
  (loopO (impl_iterates_b2 a0 v3 v9) (v11.2, [v11.1], 1)).bind fun y16 => impl_iterates_k3 x5 y16
 else
  some (.inr (.inr x5.2.1))
noncomputable def impl_iterates (a0 : (List Qp)) (a1 : Int) : Option ((List (List Qr)) × Bool) :=
 (impl_zero).bind fun v1 =>
 (impl_oneRat).bind fun v2 =>
 (impl_turns a0).bind fun v3 =>
 (loopO (impl_iterates_b1 a0 a1 v3) (false, [[v1, v2]], 0)).bind fun y6 => (Sum.elim (fun p => some p) (fun p => impl_iterates_k1 p)) y6
noncomputable def impl_iterated (a0 : (List Qp)) (a1 : Int) : Option ((List (List Qr)) × Bool) :=
 (impl_isStrict a0).bind fun v1 =>
 (if (!v1) = true then
   some true
  else
   (impl_within a1 0 12).bind fun v2 =>
   some (!v2)).bind fun w3 =>
 if w3 = true then
  some ([], false)
 else
  (impl_iterates a0 a1).bind fun v5 =>
  some v5
noncomputable def impl_HighestAndLowest (a0 : (List Qp)) (a1 : Int) : Option (Qr × Qr × Bool) :=
 (impl_iterated a0 a1).bind fun v1 =>
 if (!v1.2) = true then
  some ((0, 0), (0, 0), false)
 else
  (idxO v1.1 a1).bind fun v3 =>
  (slices_MaxFunc_Limpl_Rat_impl_Rat v3 (fun x0 x1 => impl_compare x0 x1)).bind fun v4 =>
  (slices_MinFunc_Limpl_Rat_impl_Rat v3 (fun x0 x1 => impl_compare x0 x1)).bind fun v5 =>
  some (v4, v5, true)
noncomputable def spec_imGood_k1 (a0 : (List Qp)) (x3 : Unit) : Option Bool :=
 (idxO a0 0).bind fun v4 =>
 (spec_raInt 0).bind fun v5 =>
 (spec_raCmp v4.1 v5).bind fun v6 =>
 (if (v6 == 0) = true then
   (idxO a0 (w64 ((a0.length : Int) - 1))).bind fun v7 =>
   (spec_raInt 1).bind fun v8 =>
   (spec_raCmp v7.1 v8).bind fun v9 =>
   some (v9 == 0)
  else
   some false).bind fun w10 =>
 some w10
noncomputable def spec_imGood_b1 (a0 : (List Qp)) (x11 : Int) : Option (Int ⊕ (Bool ⊕ Unit)) :=
 if (decide (x11 < (a0.length : Int))) = true then
  (idxO a0 x11).bind fun v14 =>
  (spec_imCoord v14.1).bind fun v15 =>
  (if (!v15) = true then
    some true
   else
    (spec_imCoord v14.2).bind fun v16 =>
    if (!v16) = true then
     some true
    else
     if (decide (x11 > 0)) = true then
      (idxO a0 (w64 (x11 - 1))).bind fun v17 =>
      (spec_raCmp v17.1 v14.1).bind fun v18 =>
      some (decide (v18 ≥ 0))
     else
      some false).bind fun w19 =>
  if w19 = true then
   some (.inr (.inl false))
  else
   some (.inl (w64 (x11 + 1)))
 else
  some (.inr (.inr ()))
noncomputable def spec_imGood (a0 : (List Qp)) : Option Bool :=
 (spec_l1In (a0.length : Int) 2 12).bind fun v1 =>
 if (!v1) = true then
  some false
 else
  (loopO (spec_imGood_b1 a0) 0).bind fun y12 => (Sum.elim (fun p => some p) (fun p => spec_imGood_k1 a0 p)) y12
noncomputable def spec_imSlopes_k1  (x1 : (List Qr)) : Option (List Qr) :=
 some x1
noncomputable def spec_imSlopes_b1 (a0 : (List Qp)) (x2 : ((List Qr) × Int)) : Option (((List Qr) × Int) ⊕ (List Qr)) :=
 if (decide (x2.2 < (a0.length : Int))) = true then
  (idxO a0 (w64 (x2.2 - 1))).bind fun v5 =>
  (idxO a0 x2.2).bind fun v6 =>
  (spec_imSlope v5 v6).bind fun v7 =>
  (guardO (x2.1.length + ([v7]).length ≤ 1099511627776)).bind fun u8 =>
  some (.inl ((x2.1 ++ [v7]), (w64 (x2.2 + 1))))
 else
  some (.inr x2.1)
noncomputable def spec_imSlopes (a0 : (List Qp)) : Option (List Qr) :=
 (loopO (spec_imSlopes_b1 a0) ([], 1)).bind fun y3 => spec_imSlopes_k1 y3
noncomputable def spec_lpStrict_k1  (x1 : Unit) : Option Bool :=
 some true
noncomputable def spec_lpStrict_b1 (v2 : (List Qr)) (x3 : Int) : Option (Int ⊕ (Bool ⊕ Unit)) :=
 if (decide (x3 < (v2.length : Int))) = true then
  (idxO v2 x3).bind fun v6 =>
  if (v6.1 == 0) = true then
   some (.inr (.inl false))
  else
   some (.inl (w64 (x3 + 1)))
 else
  some (.inr (.inr ()))
noncomputable def spec_lpStrict (a0 : (List Qp)) : Option Bool :=
 (spec_imSlopes a0).bind fun v2 =>
 (loopO (spec_lpStrict_b1 v2) 0).bind fun y4 => (Sum.elim (fun p => some p) (fun p => spec_lpStrict_k1 p)) y4
noncomputable def spec_lpAsked (a0 : (List Qp)) (a1 : Int) : Option Bool :=
 (spec_imGood a0).bind fun v1 =>
 (if v1 = true then
   (spec_lpStrict a0).bind fun v2 =>
   if v2 = true then
    (spec_l1In a1 0 12).bind fun v3 =>
    some v3
   else
    some false
  else
   some false).bind fun w4 =>
 some w4
noncomputable def spec_lpBetween_k1  (x1 : (List Qr)) : Option (List Qr) :=
 some x1
noncomputable def spec_lpBetween_k2 (a1 : Qr) (a2 : Qr) (x2 : ((List Qr) × Int)) (v5 : Qr) (x6 : (List Qr)) : Option (((List Qr) × Int) ⊕ (List Qr)) :=
 (spec_raCmp a2 v5).bind fun v7 =>
 (if (decide (v7 < 0)) = true then
   (spec_raCmp v5 a1).bind fun v8 =>
   some (decide (v8 < 0))
  else
   some false).bind fun w9 =>
 if w9 = true then
  (guardO (([v5]).length + x6.length ≤ 1099511627776)).bind fun u11 =>
  some (.inl (([v5] ++ x6), (w64 (x2.2 + 1))))
 else
  some (.inl (x6, (w64 (x2.2 + 1))))
noncomputable def spec_lpBetween_b1 (a0 : (List Qr)) (a1 : Qr) (a2 : Qr) (x2 : ((List Qr) × Int)) : Option (((List Qr) × Int) ⊕ (List Qr)) :=
 if (decide (x2.2 < (a0.length : Int))) = true then
  (idxO a0 x2.2).bind fun v5 =>
  (spec_raCmp a1 v5).bind fun v12 =>
  (if (decide (v12 < 0)) = true then
    (spec_raCmp v5 a2).bind fun v13 =>
    some (decide (v13 < 0))
   else
    some false).bind fun w14 =>
  if w14 = true then
   (guardO (x2.1.length + ([v5]).length ≤ 1099511627776)).bind fun u16 =>
   spec_lpBetween_k2 a1 a2 x2 v5 (x2.1 ++ [v5])
  else
   spec_lpBetween_k2 a1 a2 x2 v5 x2.1
 else
  some (.inr x2.1)
noncomputable def spec_lpBetween (a0 : (List Qr)) (a1 : Qr) (a2 : Qr) : Option (List Qr) :=
 (loopO (spec_lpBetween_b1 a0 a1 a2) ([], 0)).bind fun y3 => spec_lpBetween_k1 y3
noncomputable def spec_lpNext_k2  (x4 : (List Qr)) : Option ((List Qr) × Bool) :=
 some (x4, true)
noncomputable def spec_lpNext_b1 (a0 : (List Qp)) (x2 : (List Qr)) (x5 : ((List Qr) × Int)) : Option (((List Qr) × Int) ⊕ (((List Qr) × Bool) ⊕ (List Qr))) :=
 if (decide (x5.2 < (x2.length : Int))) = true then
  (idxO x2 x5.2).bind fun v8 =>
  (spec_imAt a0 v8).bind fun v9 =>
  if (!v9.2) = true then
   some (.inr (.inl ([], false)))
  else
   (guardO (x5.1.length + ([v9.1]).length ≤ 1099511627776)).bind fun u11 =>
   some (.inl ((x5.1 ++ [v9.1]), (w64 (x5.2 + 1))))
 else
  some (.inr (.inr x5.1))
noncomputable def spec_lpNext_k1 (a0 : (List Qp)) (x2 : (List Qr)) : Option ((List Qr) × Bool) :=
 if (decide ((x2.length : Int) > 4097)) = true then
  some ([], false)
 else
  (loopO (spec_lpNext_b1 a0 x2) ([], 0)).bind fun y6 => (Sum.elim (fun p => some p) (fun p => spec_lpNext_k2 p)) y6
noncomputable def spec_lpNext_b2 (a1 : (List Qr)) (a2 : (List Qr)) (x12 : ((List Qr) × Int)) : Option (((List Qr) × Int) ⊕ (List Qr)) :=
 if (decide (x12.2 < (a2.length : Int))) = true then
  (idxO a2 (w64 (x12.2 - 1))).bind fun v15 =>
  (idxO a2 x12.2).bind fun v16 =>
  (spec_lpBetween a1 v15 v16).bind fun v17 =>
  (guardO (x12.1.length + v17.length ≤ 1099511627776)).bind fun u18 =>
  (guardO ((x12.1 ++ v17).length + ([v16]).length ≤ 1099511627776)).bind fun u19 =>
  some (.inl (((x12.1 ++ v17) ++ [v16]), (w64 (x12.2 + 1))))
 else
  some (.inr x12.1)
noncomputable def spec_lpNext (a0 : (List Qp)) (a1 : (List Qr)) (a2 : (List Qr)) : Option ((List Qr) × Bool) :=
 (idxO a2 0).bind fun v1 =>
 (loopO (spec_lpNext_b2 a1 a2) ([v1], 1)).bind fun y13 => spec_lpNext_k1 a0 y13
noncomputable def spec_imLaps_k1  (x1 : (List (List Int))) : Option (List (List Int)) :=
 some x1
noncomputable def spec_imLaps_b1 (v2 : (List Qr)) (x3 : ((List (List Int)) × Int)) : Option (((List (List Int)) × Int) ⊕ (List (List Int))) :=
 if (decide (x3.2 < (v2.length : Int))) = true then
  (idxO v2 x3.2).bind fun v6 =>
  (spec_l1Sign v6.1).bind fun v7 =>
  (if (decide ((x3.1.length : Int) > 0)) = true then
    (idxO x3.1 (w64 ((x3.1.length : Int) - 1))).bind fun v8 =>
    (idxO v8 2).bind fun v9 =>
    some (v9 == v7)
   else
    some false).bind fun w10 =>
  if w10 = true then
   (idxO x3.1 (w64 ((x3.1.length : Int) - 1))).bind fun v12 =>
   (idxO v12 1).bind fun v13 =>
   some (.inl ((x3.1.set (Int.toNat (w64 ((x3.1.length : Int) - 1))) (v12.set (Int.toNat 1) (w64 (x3.2 + 1)))), (w64 (x3.2 + 1))))
  else
   (guardO (x3.1.length + ([[x3.2, (w64 (x3.2 + 1)), v7]]).length ≤ 1099511627776)).bind fun u14 =>
   some (.inl ((x3.1 ++ [[x3.2, (w64 (x3.2 + 1)), v7]]), (w64 (x3.2 + 1))))
 else
  some (.inr x3.1)
noncomputable def spec_imLaps (a0 : (List Qp)) : Option (List (List Int)) :=
 (spec_imSlopes a0).bind fun v2 =>
 (loopO (spec_imLaps_b1 v2) ([], 0)).bind fun y4 => spec_imLaps_k1 y4
noncomputable def spec_lpTurns_k1  (x1 : (List Qr)) : Option (List Qr) :=
 some x1
noncomputable def spec_lpTurns_b1 (a0 : (List Qp)) (v2 : (List (List Int))) (x4 : ((List Qr) × Int)) : Option (((List Qr) × Int) ⊕ (List Qr)) :=
 if (decide (x4.2 < ((v2.drop (Int.toNat 1)).length : Int))) = true then
  (idxO (v2.drop (Int.toNat 1)) x4.2).bind fun v7 =>
  (idxO v7 0).bind fun v8 =>
  (idxO a0 v8).bind fun v9 =>
  (guardO (x4.1.length + ([v9.1]).length ≤ 1099511627776)).bind fun u10 =>
  some (.inl ((x4.1 ++ [v9.1]), (w64 (x4.2 + 1))))
 else
  some (.inr x4.1)
noncomputable def spec_lpTurns (a0 : (List Qp)) : Option (List Qr) :=
 (spec_imLaps a0).bind fun v2 =>
 (guardO (0 ≤ 1 ∧ 1 ≤ (v2.length : Int))).bind fun u3 =>
 (loopO (spec_lpTurns_b1 a0 v2) ([], 0)).bind fun y5 => spec_lpTurns_k1 y5
noncomputable def spec_lpEnds_k1  (x4 : (List Qr)) : Option ((List Qr) × Bool) :=
 some (x4, true)
noncomputable def spec_lpEnds_b1 (a0 : (List Qp)) (v3 : (List Qr)) (x5 : (Int × (List Qr))) : Option ((Int × (List Qr)) ⊕ (((List Qr) × Bool) ⊕ (List Qr))) :=
 if (decide (x5.1 > 0)) = true then
  (spec_lpNext a0 v3 x5.2).bind fun v8 =>
  if (!v8.2) = true then
   some (.inr (.inl ([], false)))
  else
   some (.inl ((w64 (x5.1 - 1)), v8.1))
 else
  some (.inr (.inr x5.2))
noncomputable def spec_lpEnds (a0 : (List Qp)) (a1 : Int) : Option ((List Qr) × Bool) :=
 (spec_raInt 0).bind fun v1 =>
 (spec_raInt 1).bind fun v2 =>
 (spec_lpTurns a0).bind fun v3 =>
 (loopO (spec_lpEnds_b1 a0 v3) (a1, [v1, v2])).bind fun y6 => (Sum.elim (fun p => some p) (fun p => spec_lpEnds_k1 p)) y6
noncomputable def spec_HighestAndLowest_k1  (x6 : (Int × Int × Int × Int)) : Option (Qr × Qr × Bool) :=
 some ((x6.1, x6.2.1), x6.2.2, true)
noncomputable def spec_HighestAndLowest_k2 (x7 : (Int × Int × Int × Int × Int)) (v10 : Qr) (x11 : Qr) : Option ((Int × Int × Int × Int × Int) ⊕ (Int × Int × Int × Int)) :=
 (spec_raCmp v10 (x7.2.2.1, x7.2.2.2.1)).bind fun v12 =>
 if (decide (v12 < 0)) = true then
  some (.inl (x11.1, x11.2, v10.1, v10.2, (w64 (x7.2.2.2.2 + 1))))
 else
  some (.inl (x11.1, x11.2, x7.2.2.1, x7.2.2.2.1, (w64 (x7.2.2.2.2 + 1))))
noncomputable def spec_HighestAndLowest_b1 (v3 : ((List Qr) × Bool)) (x7 : (Int × Int × Int × Int × Int)) : Option ((Int × Int × Int × Int × Int) ⊕ (Int × Int × Int × Int)) :=
 if (decide (x7.2.2.2.2 < (v3.1.length : Int))) = true then
  (idxO v3.1 x7.2.2.2.2).bind fun v10 =>
  (spec_raCmp (x7.1, x7.2.1) v10).bind fun v14 =>
  if (decide (v14 < 0)) = true then
   spec_HighestAndLowest_k2 x7 v10 v10
  else
   spec_HighestAndLowest_k2 x7 v10 (x7.1, x7.2.1)
 else
  some (.inr (x7.1, x7.2.1, x7.2.2.1, x7.2.2.2.1))
noncomputable def spec_HighestAndLowest (a0 : (List Qp)) (a1 : Int) : Option (Qr × Qr × Bool) :=
 (spec_lpAsked a0 a1).bind fun v1 =>
 if (!v1) = true then
  some ((0, 0), (0, 0), false)
 else
  (spec_lpEnds a0 a1).bind fun v3 =>
  if (!v3.2) = true then
   some ((0, 0), (0, 0), false)
  else
   (idxO v3.1 0).bind fun v5 =>
   (loopO (spec_HighestAndLowest_b1 v3) (v5.1, v5.2, v5.1, v5.2, 0)).bind fun y8 => spec_HighestAndLowest_k1 y8
noncomputable def impl_EndValues (a0 : (List Qp)) (a1 : Int) : Option ((List Qr) × Bool) :=
 (impl_iterated a0 a1).bind fun v1 =>
 if (!v1.2) = true then
  some ([], false)
 else
  (idxO v1.1 a1).bind fun v3 =>
  some (v3, true)
noncomputable def spec_EndValues (a0 : (List Qp)) (a1 : Int) : Option ((List Qr) × Bool) :=
 (spec_lpAsked a0 a1).bind fun v1 =>
 if (!v1) = true then
  some ([], false)
 else
  (spec_lpEnds a0 a1).bind fun v3 =>
  some v3
noncomputable def laws_pSameRats_k1  (x2 : Unit) : Option Bool :=
 some true
noncomputable def laws_pSameRats_b1 (a0 : (List Qr)) (a1 : (List Qr)) (x3 : Int) : Option (Int ⊕ (Bool ⊕ Unit)) :=
 if (decide (x3 < (a0.length : Int))) = true then
  (idxO a0 x3).bind fun v6 =>
  (idxO a1 x3).bind fun v7 =>
  if (!((v6.1 == v7.1) && (v6.2 == v7.2))) = true then
   some (.inr (.inl false))
  else
   some (.inl (w64 (x3 + 1)))
 else
  some (.inr (.inr ()))
noncomputable def laws_pSameRats (a0 : (List Qr)) (a1 : (List Qr)) : Option Bool :=
 if ((a0.length : Int) != (a1.length : Int)) = true then
  some false
 else
  (loopO (laws_pSameRats_b1 a0 a1) 0).bind fun y4 => (Sum.elim (fun p => some p) (fun p => laws_pSameRats_k1 p)) y4
noncomputable def laws_big (a0 : (List Int)) (a1 : (List Int)) : Option Bool :=
 some ((decide ((a0.length : Int) > 1048576)) || (decide ((a1.length : Int) > (w64 (1048576 - (a0.length : Int))))))
noncomputable def impl_LapGrowth_k1 (v1 : ((List (List Qr)) × Bool)) (x2 : (List Int)) : Option ((List Int) × Bool) :=
 some (x2, v1.2)
noncomputable def impl_LapGrowth_b1 (v1 : ((List (List Qr)) × Bool)) (x3 : ((List Int) × Int)) : Option (((List Int) × Int) ⊕ (List Int)) :=
 if (decide (x3.2 < (v1.1.length : Int))) = true then
  (idxO v1.1 x3.2).bind fun v6 =>
  (guardO (x3.1.length + ([(w64 ((v6.length : Int) - 1))]).length ≤ 1099511627776)).bind fun u7 =>
  some (.inl ((x3.1 ++ [(w64 ((v6.length : Int) - 1))]), (w64 (x3.2 + 1))))
 else
  some (.inr x3.1)
noncomputable def impl_LapGrowth (a0 : (List Qp)) (a1 : Int) : Option ((List Int) × Bool) :=
 (impl_iterated a0 a1).bind fun v1 =>
 (loopO (impl_LapGrowth_b1 v1) ([], 0)).bind fun y4 => impl_LapGrowth_k1 v1 y4
noncomputable def spec_LapGrowth_k1  (x6 : (List Int)) : Option ((List Int) × Bool) :=
 some (x6, true)
noncomputable def spec_LapGrowth_b1 (a0 : (List Qp)) (a1 : Int) (v5 : (List Qr)) (x7 : ((List Qr) × (List Int) × Int)) : Option (((List Qr) × (List Int) × Int) ⊕ (((List Int) × Bool) ⊕ (List Int))) :=
 if (decide (x7.2.2 < a1)) = true then
  (spec_lpNext a0 v5 x7.1).bind fun v10 =>
  if (!v10.2) = true then
   some (.inr (.inl ([], false)))
  else
   (guardO (x7.2.1.length + ([(w64 ((v10.1.length : Int) - 1))]).length ≤ 1099511627776)).bind fun u12 =>
   some (.inl (v10.1, (x7.2.1 ++ [(w64 ((v10.1.length : Int) - 1))]), (w64 (x7.2.2 + 1))))
 else
  some (.inr (.inr x7.2.1))
noncomputable def spec_LapGrowth (a0 : (List Qp)) (a1 : Int) : Option ((List Int) × Bool) :=
 (spec_lpAsked a0 a1).bind fun v1 =>
 if (!v1) = true then
  some ([], false)
 else
  (spec_raInt 0).bind fun v3 =>
  (spec_raInt 1).bind fun v4 =>
  (spec_lpTurns a0).bind fun v5 =>
  (loopO (spec_LapGrowth_b1 a0 a1 v5) ([v3, v4], [1], 0)).bind fun y8 => (Sum.elim (fun p => some p) (fun p => spec_LapGrowth_k1 p)) y8
noncomputable def impl_LapNumber (a0 : (List Qp)) (a1 : Int) : Option (Int × Bool) :=
 (impl_iterated a0 a1).bind fun v1 =>
 if (!v1.2) = true then
  some (0, false)
 else
  (idxO v1.1 a1).bind fun v3 =>
  some ((w64 ((v3.length : Int) - 1)), true)
noncomputable def spec_LapNumber (a0 : (List Qp)) (a1 : Int) : Option (Int × Bool) :=
 (spec_lpAsked a0 a1).bind fun v1 =>
 if (!v1) = true then
  some (0, false)
 else
  (spec_lpEnds a0 a1).bind fun v3 =>
  if (!v3.2) = true then
   some (0, false)
  else
   some ((w64 ((v3.1.length : Int) - 1)), true)
noncomputable def impl_calc_distance_k1 (a0 : Bool) (x1 : (Int × Int × Int × Int)) : Option (Qr × Bool) :=
 (impl_calc_sub a0 (x1.1, x1.2.1) x1.2.2).bind fun v2 =>
 some v2
noncomputable def impl_calc_distance (a0 : Bool) (a1 : Qr) (a2 : Qr) : Option (Qr × Bool) :=
 (impl_less a1 a2).bind fun v3 =>
 if v3 = true then
  impl_calc_distance_k1 a0 (a2.1, a2.2, a1.1, a1.2)
 else
  impl_calc_distance_k1 a0 (a1.1, a1.2, a2.1, a2.2)
noncomputable def impl_variation_k1  (x2 : (Bool × Int × Int)) : Option (Qr × Bool) :=
 if x2.1 = true then
  some ((0, 0), false)
 else
  some (x2.2, true)
noncomputable def impl_variation_b1 (a0 : (List Qr)) (x4 : (Bool × Int × Int × Int)) : Option ((Bool × Int × Int × Int) ⊕ (Bool × Int × Int)) :=
 if (decide (x4.2.2.2 < (a0.length : Int))) = true then
  (idxO a0 (w64 (x4.2.2.2 - 1))).bind fun v7 =>
  (idxO a0 x4.2.2.2).bind fun v8 =>
  (impl_calc_distance x4.1 v7 v8).bind fun v9 =>
  (impl_calc_add v9.2 (x4.2.1, x4.2.2.1) v9.1).bind fun v10 =>
  some (.inl (v10.2, v10.1.1, v10.1.2, (w64 (x4.2.2.2 + 1))))
 else
  some (.inr (x4.1, x4.2.1, x4.2.2.1))
noncomputable def impl_variation (a0 : (List Qr)) : Option (Qr × Bool) :=
 (impl_zero).bind fun v1 =>
 (loopO (impl_variation_b1 a0) (false, v1.1, v1.2, 1)).bind fun y5 => impl_variation_k1 y5
noncomputable def impl_VariationOfIterate (a0 : (List Qp)) (a1 : Int) : Option (Qr × Bool) :=
 (impl_iterated a0 a1).bind fun v1 =>
 if (!v1.2) = true then
  some ((0, 0), false)
 else
  (idxO v1.1 a1).bind fun v3 =>
  (impl_variation v3).bind fun v4 =>
  some v4
noncomputable def spec_lpSum_k1  (x2 : Qr) : Option (Qr × Bool) :=
 some (x2, true)
noncomputable def spec_lpSum_b1 (a0 : (List Qr)) (x3 : (Int × Int × Int)) : Option ((Int × Int × Int) ⊕ ((Qr × Bool) ⊕ Qr)) :=
 if (decide (x3.2.2 < (a0.length : Int))) = true then
  (idxO a0 x3.2.2).bind fun v6 =>
  (idxO a0 (w64 (x3.2.2 - 1))).bind fun v7 =>
  (spec_raSub v6 v7).bind fun v8 =>
  if (!v8.2) = true then
   some (.inr (.inl ((0, 0), false)))
  else
   (spec_l1Abs v8.1.1).bind fun v10 =>
   (spec_raAdd (x3.1, x3.2.1) (v10, v8.1.2)).bind fun v11 =>
   if (!v11.2) = true then
    some (.inr (.inl ((0, 0), false)))
   else
    some (.inl (v11.1.1, v11.1.2, (w64 (x3.2.2 + 1))))
 else
  some (.inr (.inr (x3.1, x3.2.1)))
noncomputable def spec_lpSum (a0 : (List Qr)) : Option (Qr × Bool) :=
 (spec_raInt 0).bind fun v1 =>
 (loopO (spec_lpSum_b1 a0) (v1.1, v1.2, 1)).bind fun y4 => (Sum.elim (fun p => some p) (fun p => spec_lpSum_k1 p)) y4
noncomputable def spec_VariationOfIterate (a0 : (List Qp)) (a1 : Int) : Option (Qr × Bool) :=
 (spec_lpAsked a0 a1).bind fun v1 =>
 if (!v1) = true then
  some ((0, 0), false)
 else
  (spec_lpEnds a0 a1).bind fun v3 =>
  if (!v3.2) = true then
   some ((0, 0), false)
  else
   (spec_lpSum v3.1).bind fun v5 =>
   some v5
noncomputable def impl_IsStrict (a0 : (List Qp)) : Option (Bool × Bool) :=
 (impl_isMap a0).bind fun v1 =>
 if (!v1) = true then
  some (false, false)
 else
  (impl_isStrict a0).bind fun v3 =>
  some (v3, true)
noncomputable def math_bits_Mul64 (a0 : Int) (a1 : Int) : Option Qr :=
 some ((IntKind.wrap .u64 ((IntKind.wrap .u64 ((IntKind.wrap .u64 ((ishr .u64 a0 32) * (ishr .u64 a1 32))) + (ishr .u64 (IntKind.wrap .u64 ((IntKind.wrap .u64 ((ishr .u64 a0 32) * (iand .u64 a1 4294967295))) + (ishr .u64 (IntKind.wrap .u64 ((iand .u64 a0 4294967295) * (iand .u64 a1 4294967295))) 32))) 32))) + (ishr .u64 (IntKind.wrap .u64 ((iand .u64 (IntKind.wrap .u64 ((IntKind.wrap .u64 ((ishr .u64 a0 32) * (iand .u64 a1 4294967295))) + (ishr .u64 (IntKind.wrap .u64 ((iand .u64 a0 4294967295) * (iand .u64 a1 4294967295))) 32))) 4294967295) + (IntKind.wrap .u64 ((iand .u64 a0 4294967295) * (ishr .u64 a1 32))))) 32))), (IntKind.wrap .u64 (a0 * a1)))
noncomputable def math_bits_Mul (a0 : Int) (a1 : Int) : Option Qr :=
 (math_bits_Mul64 a0 a1).bind fun v2 =>
 some v2
noncomputable def impl_orbit_k1  (x1 : (List Qr)) : Option (List Qr) :=
 some x1
noncomputable def impl_orbit_b1 (a0 : (List Qp)) (a2 : Int) (x2 : (Int × Int × (List Qr) × Bool × Int)) : Option ((Int × Int × (List Qr) × Bool × Int) ⊕ (List Qr)) :=
 if (decide (x2.2.2.2.2 < a2)) = true then
  (impl_calc_value x2.2.2.2.1 a0 (x2.1, x2.2.1)).bind fun v5 =>
  if v5.2 = true then
   some (.inr x2.2.2.1)
  else
   (guardO (x2.2.2.1.length + ([v5.1]).length ≤ 1099511627776)).bind fun u7 =>
   some (.inl (v5.1.1, v5.1.2, (x2.2.2.1 ++ [v5.1]), v5.2, (w64 (x2.2.2.2.2 + 1))))
 else
  some (.inr x2.2.2.1)
noncomputable def impl_orbit (a0 : (List Qp)) (a1 : Qr) (a2 : Int) : Option (List Qr) :=
 (loopO (impl_orbit_b1 a0 a2) (a1.1, a1.2, [a1], false, 0)).bind fun y3 => impl_orbit_k1 y3
noncomputable def spec_knLaps (a0 : (List Qp)) : Option Bool :=
 (spec_imGood a0).bind fun v1 =>
 (if (!v1) = true then
   some true
  else
   (spec_lpStrict a0).bind fun v2 =>
   some (!v2)).bind fun w3 =>
 if w3 = true then
  some false
 else
  (spec_imLaps a0).bind fun v5 =>
  (if ((v5.length : Int) == 2) = true then
    (idxO v5 0).bind fun v6 =>
    (idxO v6 2).bind fun v7 =>
    some (v7 == 1)
   else
    some false).bind fun w8 =>
  some w8
noncomputable def spec_knLength (a0 : Int) : Option Bool :=
 (spec_l1In a0 1 30).bind fun v1 =>
 some v1
noncomputable def spec_knCentre (a0 : (List Qp)) : Option Qr :=
 (spec_lpTurns a0).bind fun v1 =>
 (idxO v1 0).bind fun v2 =>
 some v2
noncomputable def spec_orRun_k1  (x1 : (List Qr)) : Option (List Qr) :=
 some x1
noncomputable def spec_orRun_b1 (a0 : (List Qp)) (a2 : Int) (x2 : (List Qr)) : Option ((List Qr) ⊕ ((List Qr) ⊕ (List Qr))) :=
 if (decide ((x2.length : Int) ≤ a2)) = true then
  (idxO x2 (w64 ((x2.length : Int) - 1))).bind fun v5 =>
  (spec_imAt a0 v5).bind fun v6 =>
  if (!v6.2) = true then
   some (.inr (.inl x2))
  else
   (guardO (x2.length + ([v6.1]).length ≤ 1099511627776)).bind fun u8 =>
   some (.inl (x2 ++ [v6.1]))
 else
  some (.inr (.inr x2))
noncomputable def spec_orRun (a0 : (List Qp)) (a1 : Qr) (a2 : Int) : Option (List Qr) :=
 (loopO (spec_orRun_b1 a0 a2) ([a1])).bind fun y3 => (Sum.elim (fun p => some p) (fun p => spec_orRun_k1 p)) y3
noncomputable def spec_knValues (a0 : (List Qp)) (a1 : Int) : Option ((List Qr) × Bool) :=
 (spec_knCentre a0).bind fun v1 =>
 (spec_orRun a0 v1 a1).bind fun v2 =>
 if (decide ((v2.length : Int) ≤ a1)) = true then
  some ([], false)
 else
  (guardO (0 ≤ 1 ∧ 1 ≤ (v2.length : Int))).bind fun u4 =>
  some ((v2.drop (Int.toNat 1)), true)
noncomputable def spec_knWord_k1  (x3 : ByteArray) : Option (ByteArray × Bool) :=
 some (x3, true)
noncomputable def spec_knWord_b1 (a0 : (List Qp)) (v1 : ((List Qr) × Bool)) (x4 : (ByteArray × Int)) : Option ((ByteArray × Int) ⊕ ByteArray) :=
 if (decide (x4.2 < (v1.1.length : Int))) = true then
  (idxO v1.1 x4.2).bind fun v7 =>
  (spec_knCentre a0).bind fun v8 =>
  (spec_raCmp v7 v8).bind fun v9 =>
  (guardO (0 ≤ (w64 (1 + v9)) ∧ (w64 (1 + v9)) ≤ (w64 ((w64 (1 + v9)) + 1)) ∧ (w64 ((w64 (1 + v9)) + 1)) ≤ ((ByteArray.mk #[76, 67, 82]).size : Int))).bind fun u10 =>
  (guardO (x4.1.size + (strCut (ByteArray.mk #[76, 67, 82]) (w64 (1 + v9)) (w64 ((w64 (1 + v9)) + 1))).size ≤ 1099511627776)).bind fun u11 =>
  some (.inl ((x4.1 ++ (strCut (ByteArray.mk #[76, 67, 82]) (w64 (1 + v9)) (w64 ((w64 (1 + v9)) + 1)))), (w64 (x4.2 + 1))))
 else
  some (.inr x4.1)
noncomputable def spec_knWord (a0 : (List Qp)) (a1 : Int) : Option (ByteArray × Bool) :=
 (spec_knValues a0 a1).bind fun v1 =>
 if (!v1.2) = true then
  some (ByteArray.empty, false)
 else
  (loopO (spec_knWord_b1 a0 v1) (ByteArray.empty, 0)).bind fun y5 => spec_knWord_k1 y5
noncomputable def spec_KneadingOf (a0 : (List Qp)) (a1 : Int) : Option (ByteArray × Bool) :=
 (spec_knLaps a0).bind fun v1 =>
 (if (!v1) = true then
   some true
  else
   (spec_knLength a1).bind fun v2 =>
   some (!v2)).bind fun w3 =>
 if w3 = true then
  some (ByteArray.empty, false)
 else
  (spec_knWord a0 a1).bind fun v5 =>
  some v5
noncomputable def impl_isUnimodal (a0 : (List Qp)) : Option Bool :=
 (impl_isStrict a0).bind fun v1 =>
 if (!v1) = true then
  some false
 else
  (impl_laps a0).bind fun v3 =>
  (if ((v3.length : Int) == 2) = true then
    (idxO v3 0).bind fun v4 =>
    (idxO v4 2).bind fun v5 =>
    some (v5 == 1)
   else
    some false).bind fun w6 =>
  some w6
noncomputable def impl_kneading (a0 : (List Qp)) (a1 : Int) : Option ((List Qr) × Qr × Bool) :=
 (impl_isUnimodal a0).bind fun v1 =>
 (if (!v1) = true then
   some true
  else
   (impl_within a1 1 30).bind fun v2 =>
   some (!v2)).bind fun w3 =>
 if w3 = true then
  some ([], (0, 0), false)
 else
  (impl_turns a0).bind fun v5 =>
  (idxO v5 0).bind fun v6 =>
  (impl_orbit a0 v6 a1).bind fun v7 =>
  if (decide ((v7.length : Int) ≤ a1)) = true then
   some ([], (0, 0), false)
  else
   (guardO (0 ≤ 1 ∧ 1 ≤ (v7.length : Int))).bind fun u9 =>
   some ((v7.drop (Int.toNat 1)), v6, true)
noncomputable def strings_Builder_copyCheck (a0 : (Unit × (List Int))) : Option (Unit × (List Int)) :=
 some a0
noncomputable def strings_Builder_WriteByte (a0 : (Unit × (List Int))) (a1 : Int) : Option (Unit × (Unit × (List Int))) :=
 (strings_Builder_copyCheck ((), a0.2)).bind fun v1 =>
 (guardO (v1.2.length + ([a1]).length ≤ 1099511627776)).bind fun u2 =>
 some ((), ((), (v1.2 ++ [a1])))
noncomputable def strings_Builder_String (a0 : (Unit × (List Int))) : Option ByteArray :=
 (guardO (a0.2 ≠ [] ∧ bytesOk a0.2 = true)).bind fun u1 =>
 some (bytesB a0.2)
noncomputable def impl_KneadingOf_k1  (x3 : (List Int)) : Option (ByteArray × Bool) :=
 (strings_Builder_String ((), x3)).bind fun v4 =>
 some (v4, true)
noncomputable def impl_KneadingOf_b1 (v1 : ((List Qr) × Qr × Bool)) (x5 : ((List Int) × Int)) : Option (((List Int) × Int) ⊕ (List Int)) :=
 if (decide (x5.2 < (v1.1.length : Int))) = true then
  (idxO v1.1 x5.2).bind fun v8 =>
  (impl_compare v8 v1.2.1).bind fun v9 =>
  (guardO (0 ≤ (w64 (v9 + 1)) ∧ (w64 (v9 + 1)) < ((ByteArray.mk #[76, 67, 82]).size : Int))).bind fun u10 =>
  (strings_Builder_WriteByte ((), x5.1) (strAt (ByteArray.mk #[76, 67, 82]) (w64 (v9 + 1)))).bind fun v11 =>
  some (.inl (v11.2.2, (w64 (x5.2 + 1))))
 else
  some (.inr x5.1)
noncomputable def impl_KneadingOf (a0 : (List Qp)) (a1 : Int) : Option (ByteArray × Bool) :=
 (impl_kneading a0 a1).bind fun v1 =>
 if (!v1.2.2) = true then
  some (ByteArray.empty, false)
 else
  (loopO (impl_KneadingOf_b1 v1) ([], 0)).bind fun y6 => impl_KneadingOf_k1 y6
noncomputable def spec_TurningValues (a0 : (List Qp)) (a1 : Int) : Option ((List Qr) × Bool) :=
 (spec_knLaps a0).bind fun v1 =>
 (if (!v1) = true then
   some true
  else
   (spec_knLength a1).bind fun v2 =>
   some (!v2)).bind fun w3 =>
 if w3 = true then
  some ([], false)
 else
  (spec_knValues a0 a1).bind fun v5 =>
  some v5
noncomputable def impl_TurningValues (a0 : (List Qp)) (a1 : Int) : Option ((List Qr) × Bool) :=
 (impl_kneading a0 a1).bind fun v1 =>
 (slices_Clone_Limpl_Rat_impl_Rat v1.1).bind fun v2 =>
 some (v2, v1.2.2)
noncomputable def spec_knGood_k1 (a0 : ByteArray) (x1 : Unit) : Option Bool :=
 (spec_knLength (a0.size : Int)).bind fun v2 =>
 some v2
noncomputable def spec_knGood_k2 (x3 : Int) (x6 : Unit) : Option (Int ⊕ (Bool ⊕ Unit)) :=
 some (.inl (w64 (x3 + 1)))
noncomputable def spec_knGood_k3 (x3 : Int) (x7 : Bool) : Option (Int ⊕ (Bool ⊕ Unit)) :=
 if (!x7) = true then
  some (.inr (.inl false))
 else
  spec_knGood_k2 x3 ()
noncomputable def spec_knGood_b2 (a0 : ByteArray) (a1 : ByteArray) (x3 : Int) (x9 : (Bool × Int)) : Option ((Bool × Int) ⊕ Bool) :=
 if (decide (x9.2 < (a1.size : Int))) = true then
  (if x9.1 = true then
    some true
   else
    (guardO (0 ≤ x3 ∧ x3 < (a0.size : Int))).bind fun u12 =>
    (guardO (0 ≤ x9.2 ∧ x9.2 < (a1.size : Int))).bind fun u13 =>
    some ((strAt a0 x3) == (strAt a1 x9.2))).bind fun w14 =>
  some (.inl (w14, (w64 (x9.2 + 1))))
 else
  some (.inr x9.1)
noncomputable def spec_knGood_b1 (a0 : ByteArray) (a1 : ByteArray) (x3 : Int) : Option (Int ⊕ (Bool ⊕ Unit)) :=
 if (decide (x3 < (a0.size : Int))) = true then
  (loopO (spec_knGood_b2 a0 a1 x3) (false, 0)).bind fun y10 => spec_knGood_k3 x3 y10
 else
  some (.inr (.inr ()))
noncomputable def spec_knGood (a0 : ByteArray) (a1 : ByteArray) : Option Bool :=
 (loopO (spec_knGood_b1 a0 a1) 0).bind fun y4 => (Sum.elim (fun p => some p) (fun p => spec_knGood_k1 a0 p)) y4
noncomputable def spec_knTent (a0 : Qr) : Option (List Qp) :=
 (spec_raInt 0).bind fun v1 =>
 (spec_raInt 0).bind fun v2 =>
 (spec_raInt 1).bind fun v3 =>
 (spec_raInt 0).bind fun v4 =>
 some ([(v1, v2), ((1, 2), a0), (v3, v4)])
noncomputable def spec_knRank (a0 : Int) : Option Int :=
 if (a0 == 76) = true then
  some 0
 else
  if (a0 == 67) = true then
   some 1
  else
   some 2
noncomputable def spec_knCompare_k1  (x1 : Unit) : Option Int :=
 some 0
noncomputable def spec_knCompare_b1 (a0 : ByteArray) (a1 : ByteArray) (x2 : Qr) : Option (Qr ⊕ (Int ⊕ Unit)) :=
 if (decide (x2.2 < (a0.size : Int))) = true then
  (guardO (0 ≤ x2.2 ∧ x2.2 < (a0.size : Int))).bind fun u5 =>
  (guardO (0 ≤ x2.2 ∧ x2.2 < (a1.size : Int))).bind fun u6 =>
  if ((strAt a0 x2.2) != (strAt a1 x2.2)) = true then
   (spec_knRank (strAt a0 x2.2)).bind fun v8 =>
   (spec_knRank (strAt a1 x2.2)).bind fun v9 =>
   (spec_l1Sign (w64 (v8 - v9))).bind fun v10 =>
   some (.inr (.inl (w64 (x2.1 * v10))))
  else
   if ((strAt a0 x2.2) == 82) = true then
    some (.inl ((w64 (0 - x2.1)), (w64 (x2.2 + 1))))
   else
    some (.inl (x2.1, (w64 (x2.2 + 1))))
 else
  some (.inr (.inr ()))
noncomputable def spec_knCompare (a0 : ByteArray) (a1 : ByteArray) : Option Int :=
 (loopO (spec_knCompare_b1 a0 a1) (1, 0)).bind fun y3 => (Sum.elim (fun p => some p) (fun p => spec_knCompare_k1 p)) y3
noncomputable def spec_HeightFor_k1  (x3 : Unit) : Option (Qr × Bool) :=
 some ((0, 0), false)
noncomputable def spec_HeightFor_b1 (a0 : ByteArray) (x4 : Int) : Option (Int ⊕ ((Qr × Bool) ⊕ Unit)) :=
 if (decide (x4 > 50)) = true then
  (spec_raMake x4 100).bind fun v7 =>
  (spec_knTent v7.1).bind fun v8 =>
  (spec_knWord v8 (a0.size : Int)).bind fun v9 =>
  (if v9.2 = true then
    (spec_knCompare v9.1 a0).bind fun v10 =>
    some (decide (v10 ≤ 0))
   else
    some false).bind fun w11 =>
  if w11 = true then
   some (.inr (.inl (v7.1, true)))
  else
   some (.inl (w64 (x4 - 1)))
 else
  some (.inr (.inr ()))
noncomputable def spec_HeightFor (a0 : ByteArray) : Option (Qr × Bool) :=
 (spec_knGood a0 (ByteArray.mk #[76, 67, 82])).bind fun v1 =>
 if ((!v1) || (decide ((a0.size : Int) > 4))) = true then
  some ((0, 0), false)
 else
  (loopO (spec_HeightFor_b1 a0) 100).bind fun y5 => (Sum.elim (fun p => some p) (fun p => spec_HeightFor_k1 p)) y5
noncomputable def strings_Trim (a0 : ByteArray) (a1 : ByteArray) : Option ByteArray :=
 (guardO (a0.size ≤ 1099511627776 ∧ a1.size ≤ 1048576 ∧ asciiB a1 = true)).bind fun u1 =>
 some (trimB a0 a1)
noncomputable def impl_isKneadingWord (a0 : ByteArray) : Option Bool :=
 (impl_within (a0.size : Int) 1 30).bind fun v1 =>
 (if v1 = true then
   (strings_Trim a0 (ByteArray.mk #[76, 67, 82])).bind fun v2 =>
   some (v2.toList == ByteArray.empty.toList)
  else
   some false).bind fun w3 =>
 some w3
noncomputable def impl_tentMap (a0 : Qr) : Option (List Qp) :=
 (impl_zero).bind fun v1 =>
 (impl_zero).bind fun v2 =>
 (impl_oneRat).bind fun v3 =>
 (impl_zero).bind fun v4 =>
 some ([(v1, v2), ((1, 2), a0), (v3, v4)])
noncomputable def strings_IndexByte (a0 : ByteArray) (a1 : Int) : Option Int :=
 some (Lib.indexByte a0.data.toList a1.toNat.toUInt8)
noncomputable def impl_compareKneading_k1  (x1 : Unit) : Option Int :=
 some 0
noncomputable def impl_compareKneading_b1 (a0 : ByteArray) (a1 : ByteArray) (x2 : Qr) : Option (Qr ⊕ (Int ⊕ Unit)) :=
 if (decide (x2.2 < (a0.size : Int))) = true then
  (guardO (0 ≤ x2.2 ∧ x2.2 < (a0.size : Int))).bind fun u5 =>
  (strings_IndexByte (ByteArray.mk #[76, 67, 82]) (strAt a0 x2.2)).bind fun v6 =>
  (guardO (0 ≤ x2.2 ∧ x2.2 < (a1.size : Int))).bind fun u7 =>
  (strings_IndexByte (ByteArray.mk #[76, 67, 82]) (strAt a1 x2.2)).bind fun v8 =>
  if (decide (v6 < v8)) = true then
   some (.inr (.inl (w64 (0 - x2.1))))
  else
   if (decide (v6 > v8)) = true then
    some (.inr (.inl x2.1))
   else
    if ((strAt a0 x2.2) == 82) = true then
     some (.inl ((w64 (0 - x2.1)), (w64 (x2.2 + 1))))
    else
     some (.inl (x2.1, (w64 (x2.2 + 1))))
 else
  some (.inr (.inr ()))
noncomputable def impl_compareKneading (a0 : ByteArray) (a1 : ByteArray) : Option Int :=
 (loopO (impl_compareKneading_b1 a0 a1) (1, 0)).bind fun y3 => (Sum.elim (fun p => some p) (fun p => impl_compareKneading_k1 p)) y3
noncomputable def impl_HeightFor_k1  (x3 : Unit) : Option (Qr × Bool) :=
 some ((0, 0), false)
noncomputable def impl_HeightFor_b1 (a0 : ByteArray) (x4 : Int) : Option (Int ⊕ ((Qr × Bool) ⊕ Unit)) :=
 if (decide (x4 ≥ 51)) = true then
  (impl_lowest x4 100).bind fun v7 =>
  (impl_tentMap v7.1).bind fun v8 =>
  (impl_KneadingOf v8 (a0.size : Int)).bind fun v9 =>
  if (!v9.2) = true then
   some (.inr (.inl ((0, 0), false)))
  else
   (impl_compareKneading v9.1 a0).bind fun v11 =>
   if (decide (v11 ≤ 0)) = true then
    some (.inr (.inl (v7.1, true)))
   else
    some (.inl (w64 (x4 - 1)))
 else
  some (.inr (.inr ()))
noncomputable def impl_HeightFor (a0 : ByteArray) : Option (Qr × Bool) :=
 (impl_isKneadingWord a0).bind fun v1 =>
 if ((!v1) || (decide ((a0.size : Int) > 4))) = true then
  some ((0, 0), false)
 else
  (loopO (impl_HeightFor_b1 a0) 100).bind fun y5 => (Sum.elim (fun p => some p) (fun p => impl_HeightFor_k1 p)) y5
noncomputable def spec_l1Cur_among3 (a0 : Cu) : Option (Qr × Cu) :=
 (spec_l1Cur_among a0 ([2, 3, 4, 5, 8, 10, 100])).bind fun v1 =>
 (spec_l1Cur_pick v1.2 (w64 ((w64 (Int.tdiv v1.1 2)) + 1))).bind fun v2 =>
 (spec_raMake (w64 (v1.1 - v2.1)) v1.1).bind fun v3 =>
 (spec_l1Cur_one v2.2 2).bind fun v4 =>
 if v4.1 = true then
  (spec_raInt 1).bind fun v6 =>
  some (v6, v4.2)
 else
  some (v3.1, v4.2)
noncomputable def spec_l1Cur_oneTurn (a0 : Cu) : Option ((List Qp) × Cu) :=
 (spec_l1Cur_one a0 5).bind fun v1 =>
 if v1.1 = true then
  (spec_l1Cur_strictMap v1.2).bind fun v3 =>
  some v3
 else
  (spec_l1Cur_among3 v1.2).bind fun v4 =>
  (spec_l1Cur_one v4.2 4).bind fun v5 =>
  if v5.1 = true then
   (spec_l1Cur_pick v5.2 3).bind fun v7 =>
   (spec_raMake (w64 (1 + v7.1)) 4).bind fun v8 =>
   (spec_raInt 0).bind fun v9 =>
   (spec_l1Cur_gridRat v7.2 2).bind fun v10 =>
   (spec_raInt 1).bind fun v11 =>
   (spec_l1Cur_gridRat v10.2 4).bind fun v12 =>
   some ([(v9, v10.1), (v8.1, v4.1), (v11, v12.1)], v12.2)
  else
   (spec_knTent v4.1).bind fun v13 =>
   some (v13, v5.2)
noncomputable def spec_DrawKneadingOf (a0 : (List Int)) : Option ((List Qp) × Int) :=
 (spec_l1Cur_oneTurn (a0, 0, 0)).bind fun v1 =>
 (spec_l1Cur_among v1.2 ([0, 31])).bind fun v2 =>
 (spec_l1Cur_among v2.2 ([1, 2, 3, 3, 4, 8, 30, v2.1])).bind fun v3 =>
 some (v1.1, v3.1)
noncomputable def impl_TurningPoints (a0 : (List Qp)) : Option ((List Qr) × Bool) :=
 (impl_isMap a0).bind fun v1 =>
 if (!v1) = true then
  some ([], false)
 else
  (impl_turns a0).bind fun v3 =>
  some (v3, true)
noncomputable def spec_TurningPoints_k1  (x3 : (List Qr)) : Option ((List Qr) × Bool) :=
 some (x3, true)
noncomputable def spec_TurningPoints_b1 (a0 : (List Qp)) (v4 : (List (List Int))) (x6 : ((List Qr) × Int)) : Option (((List Qr) × Int) ⊕ (List Qr)) :=
 if (decide (x6.2 < ((v4.drop (Int.toNat 1)).length : Int))) = true then
  (idxO (v4.drop (Int.toNat 1)) x6.2).bind fun v9 =>
  (idxO v9 0).bind fun v10 =>
  (idxO a0 v10).bind fun v11 =>
  (guardO (x6.1.length + ([v11.1]).length ≤ 1099511627776)).bind fun u12 =>
  some (.inl ((x6.1 ++ [v11.1]), (w64 (x6.2 + 1))))
 else
  some (.inr x6.1)
noncomputable def spec_TurningPoints (a0 : (List Qp)) : Option ((List Qr) × Bool) :=
 (spec_imGood a0).bind fun v1 =>
 if (!v1) = true then
  some ([], false)
 else
  (spec_imLaps a0).bind fun v4 =>
  (guardO (0 ≤ 1 ∧ 1 ≤ (v4.length : Int))).bind fun u5 =>
  (loopO (spec_TurningPoints_b1 a0 v4) ([], 0)).bind fun y7 => spec_TurningPoints_k1 y7
noncomputable def impl_isMaximal_k1  (x1 : Unit) : Option Bool :=
 some true
noncomputable def impl_isMaximal_b1 (a0 : ByteArray) (x2 : Int) : Option (Int ⊕ (Bool ⊕ Unit)) :=
 if (decide (x2 < (a0.size : Int))) = true then
  (guardO (0 ≤ x2 ∧ x2 ≤ (a0.size : Int))).bind fun u5 =>
  (guardO (0 ≤ (w64 ((a0.size : Int) - x2)) ∧ (w64 ((a0.size : Int) - x2)) ≤ (a0.size : Int))).bind fun u6 =>
  (impl_compareKneading (strCut a0 x2 (a0.size : Int)) (strCut a0 0 (w64 ((a0.size : Int) - x2)))).bind fun v7 =>
  if (decide (v7 > 0)) = true then
   some (.inr (.inl false))
  else
   some (.inl (w64 (x2 + 1)))
 else
  some (.inr (.inr ()))
noncomputable def impl_isMaximal (a0 : ByteArray) : Option Bool :=
 (loopO (impl_isMaximal_b1 a0) 1).bind fun y3 => (Sum.elim (fun p => some p) (fun p => impl_isMaximal_k1 p)) y3
noncomputable def impl_IsMaximalWord (a0 : ByteArray) : Option (Bool × Bool) :=
 (impl_isKneadingWord a0).bind fun v1 =>
 if (!v1) = true then
  some (false, false)
 else
  (impl_isMaximal a0).bind fun v3 =>
  some (v3, true)
noncomputable def impl_IsUnimodal (a0 : (List Qp)) : Option (Bool × Bool) :=
 (impl_isStrict a0).bind fun v1 =>
 if (!v1) = true then
  some (false, false)
 else
  (impl_isUnimodal a0).bind fun v3 =>
  some (v3, true)
noncomputable def impl_IsKneadingWord (a0 : ByteArray) : Option Bool :=
 (impl_isKneadingWord a0).bind fun v1 =>
 some v1
noncomputable def spec_l1Cur_of (a0 : Cu) (a1 : (List ByteArray)) : Option (ByteArray × Cu) :=
 (spec_l1Cur_pick a0 (a1.length : Int)).bind fun v1 =>
 (idxO a1 v1.1).bind fun v2 =>
 some (v2, v1.2)
noncomputable def spec_l1Cur_kneadingWord_k2  (x3 : ((List Int) × Int × Int × ByteArray)) : Option (ByteArray × Cu) :=
 (spec_l1Cur_one (x3.1, x3.2.1, x3.2.2.1) 24).bind fun v4 =>
 if v4.1 = true then
  (spec_l1Cur_of v4.2 ([ByteArray.empty, (ByteArray.mk #[108]), (ByteArray.mk #[82, 88]), (ByteArray.mk #[82, 32])])).bind fun v6 =>
  some v6
 else
  some (x3.2.2.2, v4.2)
noncomputable def spec_l1Cur_kneadingWord_b1 (x2 : ((List Int) × Int × Int × Int)) (x7 : ((List Int) × Int × Int × ByteArray)) : Option (((List Int) × Int × Int × ByteArray) ⊕ ((List Int) × Int × Int × ByteArray)) :=
 if (decide ((x7.2.2.2.size : Int) < x2.2.2.2)) = true then
  (spec_l1Cur_of (x7.1, x7.2.1, x7.2.2.1) ([(ByteArray.mk #[76]), (ByteArray.mk #[82]), (ByteArray.mk #[82]), (ByteArray.mk #[76]), (ByteArray.mk #[67])])).bind fun v10 =>
  (guardO (x7.2.2.2.size + v10.1.size ≤ 1099511627776)).bind fun u11 =>
  some (.inl (v10.2.1, v10.2.2.1, v10.2.2.2, (x7.2.2.2 ++ v10.1)))
 else
  some (.inr x7)
noncomputable def spec_l1Cur_kneadingWord_k1  (x2 : ((List Int) × Int × Int × Int)) : Option (ByteArray × Cu) :=
 (loopO (spec_l1Cur_kneadingWord_b1 x2) (x2.1, x2.2.1, x2.2.2.1, ByteArray.empty)).bind fun y8 => spec_l1Cur_kneadingWord_k2 y8
noncomputable def spec_l1Cur_kneadingWord (a0 : Cu) (a1 : Int) : Option (ByteArray × Cu) :=
 (spec_l1Cur_pick a0 a1).bind fun v1 =>
 (spec_l1Cur_one v1.2 16).bind fun v12 =>
 if v12.1 = true then
  (spec_l1Cur_pick v12.2 2).bind fun v14 =>
  spec_l1Cur_kneadingWord_k1 (v14.2.1, v14.2.2.1, v14.2.2.2, (w64 (30 + v14.1)))
 else
  spec_l1Cur_kneadingWord_k1 (v12.2.1, v12.2.2.1, v12.2.2.2, (w64 (1 + v1.1)))
noncomputable def spec_DrawHeightFor (a0 : (List Int)) : Option ByteArray :=
 (spec_l1Cur_kneadingWord (a0, 0, 0) 4).bind fun v1 =>
 (spec_l1Cur_of v1.2 ([(ByteArray.mk #[82, 76, 76, 67]), (ByteArray.mk #[82, 76, 82, 67]), (ByteArray.mk #[82, 76, 67]), (ByteArray.mk #[82, 67]), (ByteArray.mk #[67]), (ByteArray.mk #[82, 76, 76]), (ByteArray.mk #[82, 82, 82, 76]), (ByteArray.mk #[76, 76, 76, 76]), (ByteArray.mk #[82, 76, 76, 76, 76]), (ByteArray.mk #[76]), v1.1])).bind fun v2 =>
 some v2.1
noncomputable def impl_TentOf (a0 : Qr) : Option ((List Qp) × Bool) :=
 (impl_tentMap a0).bind fun v1 =>
 (impl_isMap v1).bind fun v2 =>
 if ((!v2) || (a0.1 == 0)) = true then
  some ([], false)
 else
  some (v1, true)
noncomputable def spec_TentOf (a0 : Qr) : Option ((List Qp) × Bool) :=
 (spec_imCoord a0).bind fun v1 =>
 if ((!v1) || (a0.1 == 0)) = true then
  some ([], false)
 else
  (spec_knTent a0).bind fun v3 =>
  some (v3, true)
noncomputable def impl_CompareKneading (a0 : ByteArray) (a1 : ByteArray) : Option (Int × Bool) :=
 (impl_isKneadingWord a0).bind fun v1 =>
 (if (!v1) = true then
   some true
  else
   (impl_isKneadingWord a1).bind fun v2 =>
   if (!v2) = true then
    some true
   else
    some ((a0.size : Int) != (a1.size : Int))).bind fun w3 =>
 if w3 = true then
  some (0, false)
 else
  (impl_compareKneading a0 a1).bind fun v5 =>
  some (v5, true)
noncomputable def laws_pSameMap_k1  (x2 : Unit) : Option Bool :=
 some true
noncomputable def laws_pSameMap_b1 (a0 : (List Qp)) (a1 : (List Qp)) (x3 : Int) : Option (Int ⊕ (Bool ⊕ Unit)) :=
 if (decide (x3 < (a0.length : Int))) = true then
  (idxO a0 x3).bind fun v6 =>
  (idxO a1 x3).bind fun v7 =>
  if (!(((v6.1.1 == v7.1.1) && (v6.1.2 == v7.1.2)) && ((v6.2.1 == v7.2.1) && (v6.2.2 == v7.2.2)))) = true then
   some (.inr (.inl false))
  else
   some (.inl (w64 (x3 + 1)))
 else
  some (.inr (.inr ()))
noncomputable def laws_pSameMap (a0 : (List Qp)) (a1 : (List Qp)) : Option Bool :=
 if ((a0.length : Int) != (a1.length : Int)) = true then
  some false
 else
  (loopO (laws_pSameMap_b1 a0 a1) 0).bind fun y4 => (Sum.elim (fun p => some p) (fun p => laws_pSameMap_k1 p)) y4
noncomputable def spec_l1Cur_among4 (a0 : Cu) : Option (Qr × Cu) :=
 (spec_l1Cur_pick a0 6).bind fun v1 =>
 if (v1.1 == 0) = true then
  (spec_l1Cur_anyRat v1.2).bind fun v3 =>
  some v3
 else
  if (v1.1 == 1) = true then
   (spec_l1Cur_pick v1.2 3).bind fun v5 =>
   (spec_l1Cur_among v5.2 ([100, 101, 1])).bind fun v6 =>
   some ((v5.1, v6.1), v6.2)
  else
   (spec_l1Cur_among3 v1.2).bind fun v7 =>
   some v7
noncomputable def spec_DrawTentOf (a0 : (List Int)) : Option Qr :=
 (spec_l1Cur_among4 (a0, 0, 0)).bind fun v1 =>
 some v1.1
noncomputable def laws_FnKneading_k2 (a1 : (List Int)) (x16 : Unit) : Option Bool :=
 (spec_DrawTentOf a1).bind fun v17 =>
 (impl_TentOf v17).bind fun v18 =>
 (spec_TentOf v17).bind fun v19 =>
 (if (v18.2 == v19.2) = true then
   (laws_pSameMap v18.1 v19.1).bind fun v20 =>
   some v20
  else
   some false).bind fun w21 =>
 some w21
noncomputable def laws_FnKneading_k1 (a1 : (List Int)) (x11 : Unit) : Option Bool :=
 (spec_DrawHeightFor a1).bind fun v12 =>
 (impl_HeightFor v12).bind fun v13 =>
 (spec_HeightFor v12).bind fun v14 =>
 if ((!(v13.2 == v14.2)) || (!((v13.1.1 == v14.1.1) && (v13.1.2 == v14.1.2)))) = true then
  some false
 else
  if v13.2 = true then
   (impl_TentOf v13.1).bind fun v23 =>
   (spec_TentOf v14.1).bind fun v24 =>
   (impl_KneadingOf v23.1 (v12.size : Int)).bind fun v25 =>
   (spec_KneadingOf v24.1 (v12.size : Int)).bind fun v26 =>
   (impl_CompareKneading v25.1 v12).bind fun v27 =>
   (if (!v23.2) = true then
     some true
    else
     if (!v24.2) = true then
      some true
     else
      (laws_pSameMap v23.1 v24.1).bind fun v28 =>
      if (!v28) = true then
       some true
      else
       if (!v25.2) = true then
        some true
       else
        if (!v26.2) = true then
         some true
        else
         if (!(v25.1.toList == v26.1.toList)) = true then
          some true
         else
          if (!v27.2) = true then
           some true
          else
           some (decide (v27.1 > 0))).bind fun w29 =>
   if w29 = true then
    some false
   else
    laws_FnKneading_k2 a1 ()
  else
   laws_FnKneading_k2 a1 ()
noncomputable def laws_FnKneading_k4 (v5 : (ByteArray × Bool)) (x40 : Int) (x45 : Int) : Option (Int ⊕ (Bool ⊕ Unit)) :=
 (guardO (0 ≤ x40 ∧ x40 < (v5.1.size : Int))).bind fun u46 =>
 if ((strAt v5.1 x40) != x45) = true then
  some (.inr (.inl false))
 else
  some (.inl (w64 (x40 + 1)))
noncomputable def laws_FnKneading_k3 (v5 : (ByteArray × Bool)) (v33 : ((List Qr) × Bool)) (x40 : Int) (v43 : Qr) (x44 : Int) : Option (Int ⊕ (Bool ⊕ Unit)) :=
 (idxO v33.1 0).bind fun v48 =>
 (laws_pLess v48 v43).bind fun v49 =>
 if v49 = true then
  laws_FnKneading_k4 v5 x40 82
 else
  laws_FnKneading_k4 v5 x40 x44
noncomputable def laws_FnKneading_b1 (v5 : (ByteArray × Bool)) (v7 : ((List Qr) × Bool)) (v33 : ((List Qr) × Bool)) (x40 : Int) : Option (Int ⊕ (Bool ⊕ Unit)) :=
 if (decide (x40 < (v7.1.length : Int))) = true then
  (idxO v7.1 x40).bind fun v43 =>
  (idxO v33.1 0).bind fun v51 =>
  (laws_pLess v43 v51).bind fun v52 =>
  if v52 = true then
   laws_FnKneading_k3 v5 v33 x40 v43 76
  else
   laws_FnKneading_k3 v5 v33 x40 v43 67
 else
  some (.inr (.inr ()))
noncomputable def laws_FnKneading (a0 : (List Int)) (a1 : (List Int)) : Option Bool :=
 (laws_big a0 a1).bind fun v1 =>
 if v1 = true then
  some true
 else
  (spec_DrawKneadingOf a0).bind fun v3 =>
  (impl_KneadingOf v3.1 v3.2).bind fun v4 =>
  (spec_KneadingOf v3.1 v3.2).bind fun v5 =>
  (impl_TurningValues v3.1 v3.2).bind fun v6 =>
  (spec_TurningValues v3.1 v3.2).bind fun v7 =>
  (if (!(v4.2 == v5.2)) = true then
    some true
   else
    if (!(v4.1.toList == v5.1.toList)) = true then
     some true
    else
     if (!(v6.2 == v7.2)) = true then
      some true
     else
      (laws_pSameRats v6.1 v7.1).bind fun v8 =>
      if (!v8) = true then
       some true
      else
       some (!(v6.2 == v4.2))).bind fun w9 =>
  if w9 = true then
   some false
  else
   if v4.2 = true then
    (impl_TurningPoints v3.1).bind fun v32 =>
    (spec_TurningPoints v3.1).bind fun v33 =>
    (impl_IsMaximalWord v4.1).bind fun v34 =>
    (impl_IsUnimodal v3.1).bind fun v35 =>
    (if (!v32.2) = true then
      some true
     else
      if (!v33.2) = true then
       some true
      else
       (laws_pSameRats v32.1 v33.1).bind fun v36 =>
       if (!v36) = true then
        some true
       else
        if ((v5.1.size : Int) != v3.2) = true then
         some true
        else
         if ((v7.1.length : Int) != v3.2) = true then
          some true
         else
          if (!v34.2) = true then
           some true
          else
           if (!v34.1) = true then
            some true
           else
            if (!v35.2) = true then
             some true
            else
             if (!v35.1) = true then
              some true
             else
              (impl_IsKneadingWord v4.1).bind fun v37 =>
              some (!v37)).bind fun w38 =>
    if w38 = true then
     some false
    else
     (loopO (laws_FnKneading_b1 v5 v7 v33) 0).bind fun y41 => (Sum.elim (fun p => some p) (fun p => laws_FnKneading_k1 a1 p)) y41
   else
    laws_FnKneading_k1 a1 ()
end Go.PV
