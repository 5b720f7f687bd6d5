/-
  Plain definitions of what the functions answer.
  Conditions: none.
-/
import Derived.Test.YtcmcgkkjkaahcaaGreatPvCx
set_option linter.all false
namespace Go.PV
noncomputable def spec_l1In (a0 : Int) (a1 : Int) (a2 : Int) : Option Bool :=
 some ((decide (a0 ≥ a1)) && (decide (a0 ≤ a2)))
noncomputable def impl_within (a0 : Int) (a1 : Int) (a2 : Int) : Option Bool :=
 some ((decide (a1 ≤ a0)) && (decide (a0 ≤ a2)))
noncomputable def spec_l1Most (a0 : Int) (a1 : Int) : Option Int :=
 if (decide (a0 > a1)) = true then
  some a0
 else
  some a1
noncomputable def spec_l1Abs (a0 : Int) : Option Int :=
 (spec_l1Most a0 (w64 (0 - a0))).bind fun v1 =>
 some v1
noncomputable def spec_raCommon_k1  (x1 : Int) : Option Int :=
 some x1
noncomputable def spec_raCommon_b1  (x2 : Qr) : Option (Qr ⊕ Int) :=
 if (decide (x2.2 > 0)) = true then
  (guardO (x2.2 ≠ 0)).bind fun u5 =>
  some (.inl (x2.2, (Int.tmod x2.1 x2.2)))
 else
  some (.inr x2.1)
noncomputable def spec_raCommon (a0 : Int) (a1 : Int) : Option Int :=
 (loopO spec_raCommon_b1 (a0, a1)).bind fun y3 => spec_raCommon_k1 y3
noncomputable def spec_raGood (a0 : Qr) : Option Bool :=
 (spec_l1In a0.2 1 1000000000).bind fun v1 =>
 (if v1 = true then
   (spec_l1In a0.1 (-1000000000) 1000000000).bind fun v2 =>
   if v2 = true then
    (spec_l1Abs a0.1).bind fun v3 =>
    (spec_raCommon v3 a0.2).bind fun v4 =>
    some (v4 == 1)
   else
    some false
  else
   some false).bind fun w5 =>
 some w5
noncomputable def spec_liNear (a0 : Qr) : Option Bool :=
 (spec_raGood a0).bind fun v1 =>
 (if v1 = true then
   (spec_l1In a0.1 (w64 ((-1000) * a0.2)) (w64 (1000 * a0.2))).bind fun v2 =>
   some v2
  else
   some false).bind fun w3 =>
 some w3
noncomputable def spec_raDown (a0 : Int) (a1 : Int) : Option Int :=
 if (a1 == 0) = true then
  some 0
 else
  (guardO (a1 ≠ 0)).bind fun u2 =>
  if (decide ((Int.tmod a0 a1) < 0)) = true then
   some (w64 ((w64 (Int.tdiv a0 a1)) - 1))
  else
   some (w64 (Int.tdiv a0 a1))
noncomputable def spec_raFloor (a0 : Qr) : Option Int :=
 (spec_raDown a0.1 a0.2).bind fun v1 =>
 some v1
noncomputable def spec_liPlus (a0 : Qr) (a1 : Int) : Option Qr :=
 some ((w64 (a0.1 + (w64 (a1 * a0.2)))), a0.2)
noncomputable def impl_abs (a0 : Int) : Option Int :=
 if (decide (a0 < 0)) = true then
  some (w64 (0 - a0))
 else
  some a0
noncomputable def impl_greatestDivisor_k1  (x3 : Int) : Option Int :=
 some x3
noncomputable def impl_greatestDivisor_b1  (x4 : Qr) : Option (Qr ⊕ Int) :=
 if (x4.2 != 0) = true then
  (guardO (x4.2 ≠ 0)).bind fun u7 =>
  some (.inl (x4.2, (Int.tmod x4.1 x4.2)))
 else
  some (.inr x4.1)
noncomputable def impl_greatestDivisor (a0 : Int) (a1 : Int) : Option Int :=
 (impl_abs a0).bind fun v1 =>
 (impl_abs a1).bind fun v2 =>
 (loopO impl_greatestDivisor_b1 (v1, v2)).bind fun y5 => impl_greatestDivisor_k1 y5
noncomputable def impl_isRat (a0 : Qr) : Option Bool :=
 (impl_within a0.2 1 1000000000).bind fun v1 =>
 (if v1 = true then
   (impl_within a0.1 (-1000000000) 1000000000).bind fun v2 =>
   if v2 = true then
    (impl_greatestDivisor a0.1 a0.2).bind fun v3 =>
    some (v3 == 1)
   else
    some false
  else
   some false).bind fun w4 =>
 some w4
noncomputable def impl_whole (a0 : Int) : Option Qr :=
 some (a0, 1)
noncomputable def impl_compare (a0 : Qr) (a1 : Qr) : Option Int :=
 if (decide ((w64 (a0.1 * a1.2)) < (w64 (a1.1 * a0.2)))) = true then
  some (-1)
 else
  if (decide ((w64 (a0.1 * a1.2)) > (w64 (a1.1 * a0.2)))) = true then
   some 1
  else
   some 0
noncomputable def impl_less (a0 : Qr) (a1 : Qr) : Option Bool :=
 (impl_compare a0 a1).bind fun v1 =>
 some (decide (v1 < 0))
noncomputable def impl_isFar (a0 : Qr) : Option Bool :=
 (impl_isRat a0).bind fun v1 =>
 (if v1 = true then
   (impl_whole (-1000)).bind fun v2 =>
   (impl_less a0 v2).bind fun v3 =>
   if (!v3) = true then
    (impl_whole 1000).bind fun v4 =>
    (impl_less v4 a0).bind fun v5 =>
    some (!v5)
   else
    some false
  else
   some false).bind fun w6 =>
 some w6
noncomputable def impl_floorDivide (a0 : Int) (a1 : Int) : Option Int :=
 (guardO (a1 ≠ 0)).bind fun u1 =>
 if (decide ((Int.tmod a0 a1) < 0)) = true then
  some (w64 ((w64 (Int.tdiv a0 a1)) - 1))
 else
  some (w64 (Int.tdiv a0 a1))
noncomputable def impl_floor (a0 : Qr) : Option Int :=
 (impl_floorDivide a0.1 a0.2).bind fun v1 =>
 some v1
noncomputable def impl_negated (a0 : Qr) : Option Qr :=
 some ((w64 (0 - a0.1)), a0.2)
noncomputable def impl_areRats_k1  (x1 : Unit) : Option Bool :=
 some true
noncomputable def impl_areRats_b1 (a0 : (List Qr)) (x2 : Int) : Option (Int ⊕ (Bool ⊕ Unit)) :=
 if (decide (x2 < (a0.length : Int))) = true then
  (idxO a0 x2).bind fun v5 =>
  (impl_isRat v5).bind fun v6 =>
  if (!v6) = true then
   some (.inr (.inl false))
  else
   some (.inl (w64 (x2 + 1)))
 else
  some (.inr (.inr ()))
noncomputable def impl_areRats (a0 : (List Qr)) : Option Bool :=
 (loopO (impl_areRats_b1 a0) 0).bind fun y3 => (Sum.elim (fun p => some p) (fun p => impl_areRats_k1 p)) y3
noncomputable def impl_lowest_k1 (a0 : Int) (a1 : Int) (x2 : Int) : Option (Qr × Bool) :=
 (guardO (x2 ≠ 0)).bind fun u3 =>
 (impl_isRat ((w64 (Int.tdiv a0 x2)), (w64 (Int.tdiv a1 x2)))).bind fun v4 =>
 if (!v4) = true then
  some ((0, 0), false)
 else
  some (((w64 (Int.tdiv a0 x2)), (w64 (Int.tdiv a1 x2))), true)
noncomputable def impl_lowest (a0 : Int) (a1 : Int) : Option (Qr × Bool) :=
 (impl_greatestDivisor a0 a1).bind fun v1 =>
 if (decide (a1 < 0)) = true then
  impl_lowest_k1 a0 a1 (w64 (0 - v1))
 else
  impl_lowest_k1 a0 a1 v1
noncomputable def impl_AddRats (a0 : Qr) (a1 : Qr) : Option (Qr × Bool) :=
 (impl_areRats ([a0, a1])).bind fun v1 =>
 if (!v1) = true then
  some ((0, 0), false)
 else
  (impl_lowest (w64 ((w64 (a0.1 * a1.2)) + (w64 (a1.1 * a0.2)))) (w64 (a0.2 * a1.2))).bind fun v3 =>
  some v3
noncomputable def impl_SubtractRats (a0 : Qr) (a1 : Qr) : Option (Qr × Bool) :=
 (impl_negated a1).bind fun v1 =>
 (impl_AddRats a0 v1).bind fun v2 =>
 some v2
noncomputable def math_bits_Mul64 (a0 : Int) (a1 : Int) : Option Qr :=
 some ((IntKind.wrap .u64 ((IntKind.wrap .u64 ((IntKind.wrap .u64 ((ishr .u64 a0 32) * (ishr .u64 a1 32))) + (ishr .u64 (IntKind.wrap .u64 ((IntKind.wrap .u64 ((ishr .u64 a0 32) * (iand .u64 a1 4294967295))) + (ishr .u64 (IntKind.wrap .u64 ((iand .u64 a0 4294967295) * (iand .u64 a1 4294967295))) 32))) 32))) + (ishr .u64 (IntKind.wrap .u64 ((iand .u64 (IntKind.wrap .u64 ((IntKind.wrap .u64 ((ishr .u64 a0 32) * (iand .u64 a1 4294967295))) + (ishr .u64 (IntKind.wrap .u64 ((iand .u64 a0 4294967295) * (iand .u64 a1 4294967295))) 32))) 4294967295) + (IntKind.wrap .u64 ((iand .u64 a0 4294967295) * (ishr .u64 a1 32))))) 32))), (IntKind.wrap .u64 (a0 * a1)))
noncomputable def math_bits_Mul (a0 : Int) (a1 : Int) : Option Qr :=
 (math_bits_Mul64 a0 a1).bind fun v2 =>
 some v2
noncomputable def spec_raMake_k1 (a0 : Int) (a1 : Int) (x5 : Int) : Option (Qr × Bool) :=
 (guardO (x5 ≠ 0)).bind fun u6 =>
 (spec_raGood ((w64 (Int.tdiv a0 x5)), (w64 (Int.tdiv a1 x5)))).bind fun v7 =>
 if (!v7) = true then
  some ((0, 0), false)
 else
  some (((w64 (Int.tdiv a0 x5)), (w64 (Int.tdiv a1 x5))), true)
noncomputable def spec_raMake (a0 : Int) (a1 : Int) : Option (Qr × Bool) :=
 if (a1 == 0) = true then
  some ((0, 0), false)
 else
  (spec_l1Abs a0).bind fun v2 =>
  (spec_l1Abs a1).bind fun v3 =>
  (spec_raCommon v2 v3).bind fun v4 =>
  if (decide (a1 < 0)) = true then
   spec_raMake_k1 a0 a1 (w64 (0 - v4))
  else
   spec_raMake_k1 a0 a1 v4
noncomputable def spec_l1Sign (a0 : Int) : Option Int :=
 if (decide (a0 > 0)) = true then
  some 1
 else
  if (decide (a0 < 0)) = true then
   some (-1)
  else
   some 0
noncomputable def spec_raCmp (a0 : Qr) (a1 : Qr) : Option Int :=
 (spec_l1Sign (w64 ((w64 (a0.1 * a1.2)) - (w64 (a1.1 * a0.2))))).bind fun v1 =>
 some v1
noncomputable def spec_ivLess (a0 : Qr) (a1 : Qr) : Option Qr :=
 (spec_raCmp a0 a1).bind fun v1 =>
 if (decide (v1 < 0)) = true then
  some a0
 else
  some a1
noncomputable def spec_ivGreater (a0 : Qr) (a1 : Qr) : Option Qr :=
 (spec_raCmp a0 a1).bind fun v1 =>
 if (decide (v1 < 0)) = true then
  some a1
 else
  some a0
noncomputable def slices_MinFunc_Limpl_Rat_impl_Rat_k2  (x3 : Qr) : Option Qr :=
 some x3
noncomputable def slices_MinFunc_Limpl_Rat_impl_Rat_b1 (a0 : (List Qr)) (a1 : Qr → Qr → Option Int) (x4 : (Int × Int × Int)) : Option ((Int × Int × Int) ⊕ Qr) :=
 if (decide (x4.2.2 < (a0.length : Int))) = true then
  (idxO a0 x4.2.2).bind fun v7 =>
  (a1 v7 (x4.1, x4.2.1)).bind fun v8 =>
  if (decide (v8 < 0)) = true then
   some (.inl (v7.1, v7.2, (w64 (x4.2.2 + 1))))
  else
   some (.inl (x4.1, x4.2.1, (w64 (x4.2.2 + 1))))
 else
  some (.inr (x4.1, x4.2.1))
noncomputable def slices_MinFunc_Limpl_Rat_impl_Rat_k1 (a0 : (List Qr)) (a1 : Qr → Qr → Option Int) (x1 : Unit) : Option Qr :=
 (idxO a0 0).bind fun v2 =>
 (loopO (slices_MinFunc_Limpl_Rat_impl_Rat_b1 a0 a1) (v2.1, v2.2, 1)).bind fun y5 => slices_MinFunc_Limpl_Rat_impl_Rat_k2 y5
noncomputable def slices_MinFunc_Limpl_Rat_impl_Rat (a0 : (List Qr)) (a1 : (Qr → Qr → Option Int)) : Option Qr :=
 if (decide ((a0.length : Int) < 1)) = true then
  none
 else
  slices_MinFunc_Limpl_Rat_impl_Rat_k1 a0 a1 ()
noncomputable def slices_MaxFunc_Limpl_Rat_impl_Rat_k2  (x3 : Qr) : Option Qr :=
 some x3
noncomputable def slices_MaxFunc_Limpl_Rat_impl_Rat_b1 (a0 : (List Qr)) (a1 : Qr → Qr → Option Int) (x4 : (Int × Int × Int)) : Option ((Int × Int × Int) ⊕ Qr) :=
 if (decide (x4.2.2 < (a0.length : Int))) = true then
  (idxO a0 x4.2.2).bind fun v7 =>
  (a1 v7 (x4.1, x4.2.1)).bind fun v8 =>
  if (decide (v8 > 0)) = true then
   some (.inl (v7.1, v7.2, (w64 (x4.2.2 + 1))))
  else
   some (.inl (x4.1, x4.2.1, (w64 (x4.2.2 + 1))))
 else
  some (.inr (x4.1, x4.2.1))
noncomputable def slices_MaxFunc_Limpl_Rat_impl_Rat_k1 (a0 : (List Qr)) (a1 : Qr → Qr → Option Int) (x1 : Unit) : Option Qr :=
 (idxO a0 0).bind fun v2 =>
 (loopO (slices_MaxFunc_Limpl_Rat_impl_Rat_b1 a0 a1) (v2.1, v2.2, 1)).bind fun y5 => slices_MaxFunc_Limpl_Rat_impl_Rat_k2 y5
noncomputable def slices_MaxFunc_Limpl_Rat_impl_Rat (a0 : (List Qr)) (a1 : (Qr → Qr → Option Int)) : Option Qr :=
 if (decide ((a0.length : Int) < 1)) = true then
  none
 else
  slices_MaxFunc_Limpl_Rat_impl_Rat_k1 a0 a1 ()
noncomputable def spec_l1Cur_next_k1 (a0 : Cu) (x1 : Int) : Option (Int × Cu) :=
 if (decide ((w64 (a0.2.1 + 1)) ≤ (a0.1.length : Int))) = true then
  some (x1, (a0.1, (w64 (a0.2.1 + 1)), (IntKind.wrap .u64 ((IntKind.wrap .u64 ((IntKind.wrap .u64 (a0.2.2 * 6364136223846793005)) + (IntKind.wrap .u64 x1))) + 1442695040888963407))))
 else
  some ((IntKind.wrap .i64 (iand .u64 (ishr .u64 (IntKind.wrap .u64 ((IntKind.wrap .u64 ((IntKind.wrap .u64 (a0.2.2 * 6364136223846793005)) + (IntKind.wrap .u64 x1))) + 1442695040888963407)) 40) 255)), (a0.1, (w64 (a0.2.1 + 1)), (IntKind.wrap .u64 ((IntKind.wrap .u64 ((IntKind.wrap .u64 (a0.2.2 * 6364136223846793005)) + (IntKind.wrap .u64 x1))) + 1442695040888963407))))
noncomputable def spec_l1Cur_next (a0 : Cu) : Option (Int × Cu) :=
 if (decide (a0.2.1 < (a0.1.length : Int))) = true then
  (idxO a0.1 a0.2.1).bind fun v4 =>
  spec_l1Cur_next_k1 a0 (IntKind.wrap .i64 v4)
 else
  spec_l1Cur_next_k1 a0 0
noncomputable def spec_l1Cur_pick_k1 (a1 : Int) (x3 : ((List Int) × Int × Int × Int)) : Option (Int × Cu) :=
 (guardO (a1 ≠ 0)).bind fun u4 =>
 some ((Int.tmod x3.2.2.2 a1), (x3.1, x3.2.1, x3.2.2.1))
noncomputable def spec_l1Cur_pick (a0 : Cu) (a1 : Int) : Option (Int × Cu) :=
 if (decide (a1 ≤ 1)) = true then
  some (0, a0)
 else
  (spec_l1Cur_next a0).bind fun v2 =>
  if (decide (a1 > 200)) = true then
   (spec_l1Cur_next v2.2).bind fun v6 =>
   spec_l1Cur_pick_k1 a1 (v6.2.1, v6.2.2.1, v6.2.2.2, (w64 ((w64 (v2.1 * 256)) + v6.1)))
  else
   spec_l1Cur_pick_k1 a1 (v2.2.1, v2.2.2.1, v2.2.2.2, v2.1)
noncomputable def spec_l1Cur_among (a0 : Cu) (a1 : (List Int)) : Option (Int × Cu) :=
 (spec_l1Cur_pick a0 (a1.length : Int)).bind fun v1 =>
 (idxO a1 v1.1).bind fun v2 =>
 some (v2, v1.2)
noncomputable def spec_l1Cur_one (a0 : Cu) (a1 : Int) : Option (Bool × Cu) :=
 (spec_l1Cur_pick a0 a1).bind fun v1 =>
 some ((v1.1 == 0), v1.2)
noncomputable def spec_raInt (a0 : Int) : Option Qr :=
 some (a0, 1)
noncomputable def spec_l1Cur_gridRat (a0 : Cu) (a1 : Int) : Option (Qr × Cu) :=
 (spec_l1Cur_pick a0 (w64 (a1 + 1))).bind fun v1 =>
 (spec_raMake v1.1 a1).bind fun v2 =>
 some (v2.1, v1.2)
noncomputable def spec_imPut_k1 (a0 : (List Qr)) (a1 : Qr) (x1 : Int) : Option (List Qr) :=
 (if (decide (x1 < (a0.length : Int))) = true then
   (idxO a0 x1).bind fun v2 =>
   some ((v2.1 == a1.1) && (v2.2 == a1.2))
  else
   some false).bind fun w3 =>
 if w3 = true then
  some a0
 else
  (guardO (0 ≤ x1 ∧ x1 ≤ (a0.length : Int))).bind fun u5 =>
  (guardO ((a0.take (Int.toNat x1)).length ≤ 1099511627776)).bind fun u6 =>
  (guardO ((a0.take (Int.toNat x1)).length + ([a1]).length ≤ 1099511627776)).bind fun u7 =>
  (guardO (((a0.take (Int.toNat x1)) ++ [a1]).length + (a0.drop (Int.toNat x1)).length ≤ 1099511627776)).bind fun u8 =>
  some (((a0.take (Int.toNat x1)) ++ [a1]) ++ (a0.drop (Int.toNat x1)))
noncomputable def spec_imPut_b1 (a0 : (List Qr)) (a1 : Qr) (x9 : Int) : Option (Int ⊕ Int) :=
 (if (decide (x9 < (a0.length : Int))) = true then
   (idxO a0 x9).bind fun v11 =>
   (spec_raCmp v11 a1).bind fun v12 =>
   some (decide (v12 < 0))
  else
   some false).bind fun w13 =>
 if w13 = true then
  some (.inl (w64 (x9 + 1)))
 else
  some (.inr x9)
noncomputable def spec_imPut (a0 : (List Qr)) (a1 : Qr) : Option (List Qr) :=
 (loopO (spec_imPut_b1 a0 a1) 0).bind fun y10 => spec_imPut_k1 a0 a1 y10
noncomputable def spec_raAdd (a0 : Qr) (a1 : Qr) : Option (Qr × Bool) :=
 (spec_raMake (w64 ((w64 (a0.1 * a1.2)) + (w64 (a1.1 * a0.2)))) (w64 (a0.2 * a1.2))).bind fun v1 =>
 some v1
noncomputable def spec_l1Cur_liftGrid_k5 (x8 : ((List Int) × Int × Int × (List Int))) (x9 : (List Qp)) : Option ((List Qp) × Cu) :=
 some (x9, (x8.1, x8.2.1, x8.2.2.1))
noncomputable def spec_l1Cur_liftGrid_k6 (x10 : ((List Qp) × Int)) (v13 : Qr) (x14 : Qr) : Option (((List Qp) × Int) ⊕ (List Qp)) :=
 (guardO (x10.1.length + ([(v13, x14)]).length ≤ 1099511627776)).bind fun u15 =>
 some (.inl ((x10.1 ++ [(v13, x14)]), (w64 (x10.2 + 1))))
noncomputable def spec_l1Cur_liftGrid_b1 (a1 : Int) (x5 : ((List Int) × Int × Int × (List Qr))) (x7 : ((List Int) × Int × Int × Int × Int)) (x8 : ((List Int) × Int × Int × (List Int))) (x10 : ((List Qp) × Int)) : Option (((List Qp) × Int) ⊕ (List Qp)) :=
 if (decide (x10.2 < (x5.2.2.2.length : Int))) = true then
  (idxO x5.2.2.2 x10.2).bind fun v13 =>
  if ((w64 (x10.2 + 1)) == (x5.2.2.2.length : Int)) = true then
   (spec_liPlus x7.2.2.2 1).bind fun v17 =>
   spec_l1Cur_liftGrid_k6 x10 v13 v17
  else
   if (decide (x10.2 > 0)) = true then
    (idxO x8.2.2.2 x10.2).bind fun v19 =>
    (spec_raMake v19 a1).bind fun v20 =>
    (spec_raAdd x7.2.2.2 v20.1).bind fun v21 =>
    spec_l1Cur_liftGrid_k6 x10 v13 v21.1
   else
    spec_l1Cur_liftGrid_k6 x10 v13 x7.2.2.2
 else
  some (.inr x10.1)
noncomputable def spec_l1Cur_liftGrid_k4 (a1 : Int) (x5 : ((List Int) × Int × Int × (List Qr))) (x7 : ((List Int) × Int × Int × Int × Int)) (x8 : ((List Int) × Int × Int × (List Int))) : Option ((List Qp) × Cu) :=
 (loopO (spec_l1Cur_liftGrid_b1 a1 x5 x7 x8) ([], 0)).bind fun y11 => spec_l1Cur_liftGrid_k5 x8 y11
noncomputable def spec_l1Cur_liftGrid_b2 (a1 : Int) (x5 : ((List Int) × Int × Int × (List Qr))) (x22 : ((List Int) × Int × Int × (List Int))) : Option (((List Int) × Int × Int × (List Int)) ⊕ ((List Int) × Int × Int × (List Int))) :=
 if (decide ((x22.2.2.2.length : Int) < (w64 ((x5.2.2.2.length : Int) - 1)))) = true then
  (idxO x22.2.2.2 (w64 ((x22.2.2.2.length : Int) - 1))).bind fun v25 =>
  (spec_l1Cur_pick (x22.1, x22.2.1, x22.2.2.1) (w64 (a1 + 1))).bind fun v26 =>
  (spec_l1Most v25 v26.1).bind fun v27 =>
  (guardO (x22.2.2.2.length + ([v27]).length ≤ 1099511627776)).bind fun u28 =>
  some (.inl (v26.2.1, v26.2.2.1, v26.2.2.2, (x22.2.2.2 ++ [v27])))
 else
  some (.inr x22)
noncomputable def spec_l1Cur_liftGrid_k3 (a1 : Int) (x5 : ((List Int) × Int × Int × (List Qr))) (x7 : ((List Int) × Int × Int × Int × Int)) : Option ((List Qp) × Cu) :=
 (loopO (spec_l1Cur_liftGrid_b2 a1 x5) (x7.1, x7.2.1, x7.2.2.1, [0])).bind fun y23 => spec_l1Cur_liftGrid_k4 a1 x5 x7 y23
noncomputable def spec_l1Cur_liftGrid_k2 (a1 : Int) (x5 : ((List Int) × Int × Int × (List Qr))) : Option ((List Qp) × Cu) :=
 (spec_l1Cur_gridRat (x5.1, x5.2.1, x5.2.2.1) a1).bind fun v6 =>
 (spec_l1Cur_one v6.2 6).bind fun v29 =>
 if v29.1 = true then
  (spec_l1Cur_among v29.2 ([(-5), (-1), 1, 3])).bind fun v31 =>
  (spec_liPlus v6.1 v31.1).bind fun v32 =>
  spec_l1Cur_liftGrid_k3 a1 x5 (v31.2.1, v31.2.2.1, v31.2.2.2, v32.1, v32.2)
 else
  spec_l1Cur_liftGrid_k3 a1 x5 (v29.2.1, v29.2.2.1, v29.2.2.2, v6.1.1, v6.1.2)
noncomputable def spec_l1Cur_liftGrid_b3 (a1 : Int) (x2 : ((List Int) × Int × Int × Int)) (x33 : ((List Int) × Int × Int × (List Qr) × Int)) : Option (((List Int) × Int × Int × (List Qr) × Int) ⊕ ((List Int) × Int × Int × (List Qr))) :=
 if ((decide ((x33.2.2.2.1.length : Int) < (w64 (x2.2.2.2 + 2)))) && (decide (x33.2.2.2.2 < 60))) = true then
  (spec_l1Cur_gridRat (x33.1, x33.2.1, x33.2.2.1) a1).bind fun v36 =>
  (spec_imPut x33.2.2.2.1 v36.1).bind fun v37 =>
  some (.inl (v36.2.1, v36.2.2.1, v36.2.2.2, v37, (w64 (x33.2.2.2.2 + 1))))
 else
  some (.inr (x33.1, x33.2.1, x33.2.2.1, x33.2.2.2.1))
noncomputable def spec_l1Cur_liftGrid_k1 (a1 : Int) (x2 : ((List Int) × Int × Int × Int)) : Option ((List Qp) × Cu) :=
 (spec_raInt 0).bind fun v3 =>
 (spec_raInt 1).bind fun v4 =>
 (loopO (spec_l1Cur_liftGrid_b3 a1 x2) (x2.1, x2.2.1, x2.2.2.1, [v3, v4], 0)).bind fun y34 => spec_l1Cur_liftGrid_k2 a1 y34
noncomputable def spec_l1Cur_liftGrid (a0 : Cu) (a1 : Int) : Option ((List Qp) × Cu) :=
 (spec_l1Cur_among a0 ([0, 1, 1, 2, 3])).bind fun v1 =>
 (spec_l1Cur_one v1.2 16).bind fun v38 =>
 if v38.1 = true then
  spec_l1Cur_liftGrid_k1 a1 (v38.2.1, v38.2.2.1, v38.2.2.2, 10)
 else
  spec_l1Cur_liftGrid_k1 a1 (v38.2.1, v38.2.2.1, v38.2.2.2, v1.1)
noncomputable def spec_raUnit (a0 : Qr) : Option Bool :=
 (spec_raGood a0).bind fun v1 =>
 (if v1 = true then
   (spec_l1In a0.1 0 a0.2).bind fun v2 =>
   some v2
  else
   some false).bind fun w3 =>
 some w3
noncomputable def spec_imCoord (a0 : Qr) : Option Bool :=
 (spec_raUnit a0).bind fun v1 =>
 some (v1 && (decide (a0.2 ≤ 100)))
noncomputable def spec_liGood_k1 (a0 : (List Qp)) (x3 : Unit) : Option Bool :=
 (idxO a0 0).bind fun v4 =>
 (idxO a0 (w64 ((a0.length : Int) - 1))).bind fun v5 =>
 (spec_raInt 0).bind fun v6 =>
 (spec_raCmp v4.1 v6).bind fun v7 =>
 (if (v7 == 0) = true then
   (spec_raInt 1).bind fun v8 =>
   (spec_raCmp v5.1 v8).bind fun v9 =>
   if (v9 == 0) = true then
    (spec_liPlus v4.2 1).bind fun v10 =>
    some ((v5.2.1 == v10.1) && (v5.2.2 == v10.2))
   else
    some false
  else
   some false).bind fun w11 =>
 some w11
noncomputable def spec_liGood_b1 (a0 : (List Qp)) (x12 : Int) : Option (Int ⊕ (Bool ⊕ Unit)) :=
 if (decide (x12 < (a0.length : Int))) = true then
  (idxO a0 x12).bind fun v15 =>
  (spec_imCoord v15.1).bind fun v16 =>
  (if (!v16) = true then
    some true
   else
    (spec_raGood v15.2).bind fun v17 =>
    if (!v17) = true then
     some true
    else
     if (decide (v15.2.2 > 100)) = true then
      some true
     else
      (spec_l1In v15.2.1 (w64 ((-5) * v15.2.2)) (w64 (5 * v15.2.2))).bind fun v18 =>
      some (!v18)).bind fun w19 =>
  if w19 = true then
   some (.inr (.inl false))
  else
   (if (decide (x12 > 0)) = true then
     (idxO a0 (w64 (x12 - 1))).bind fun v21 =>
     (spec_raCmp v21.1 v15.1).bind fun v22 =>
     if (decide (v22 ≥ 0)) = true then
      some true
     else
      (spec_raCmp v21.2 v15.2).bind fun v23 =>
      some (decide (v23 > 0))
    else
     some false).bind fun w24 =>
   if w24 = true then
    some (.inr (.inl false))
   else
    some (.inl (w64 (x12 + 1)))
 else
  some (.inr (.inr ()))
noncomputable def spec_liGood (a0 : (List Qp)) : Option Bool :=
 (spec_l1In (a0.length : Int) 2 12).bind fun v1 =>
 if (!v1) = true then
  some false
 else
  (loopO (spec_liGood_b1 a0) 0).bind fun y13 => (Sum.elim (fun p => some p) (fun p => spec_liGood_k1 a0 p)) y13
noncomputable def spec_l1Cur_lift (a0 : Cu) : Option ((List Qp) × Cu) :=
 (spec_l1Cur_among a0 ([1, 2, 3, 4, 5, 6, 8, 12, 100])).bind fun v1 =>
 (spec_l1Cur_liftGrid v1.2 v1.1).bind fun v2 =>
 (spec_l1Cur_one v2.2 3).bind fun v3 =>
 (if v3.1 = true then
   some true
  else
   (spec_liGood v2.1).bind fun v4 =>
   some (!v4)).bind fun w5 =>
 if w5 = true then
  (spec_l1Cur_among v3.2 ([2, 3, 5, 8, 13])).bind fun v7 =>
  (spec_l1Cur_gridRat v7.2 v7.1).bind fun v8 =>
  (spec_raInt 0).bind fun v9 =>
  (spec_raInt 1).bind fun v10 =>
  (spec_liPlus v8.1 1).bind fun v11 =>
  some ([(v9, v8.1), (v10, v11)], v8.2)
 else
  some (v2.1, v3.2)
noncomputable def spec_l1Cur_rat (a0 : Cu) : Option (Qr × Cu) :=
 (spec_l1Cur_pick a0 41).bind fun v1 =>
 (spec_l1Cur_pick v1.2 2001).bind fun v2 =>
 (spec_l1Cur_among v2.2 ([0, 1, 2, 3, (-1), (-5), (w64 (v1.1 - 20)), (w64 (v2.1 - 1000)), 1000000000, (-1000000000)])).bind fun v3 =>
 (spec_l1Cur_pick v3.2 20).bind fun v4 =>
 (spec_l1Cur_pick v4.2 1000).bind fun v5 =>
 (spec_l1Cur_among v5.2 ([1, 2, 3, 4, 8, 7, (w64 (1 + v4.1)), (w64 (1 + v5.1)), 1000000000, 999999999])).bind fun v6 =>
 (spec_raMake v3.1 v6.1).bind fun v7 =>
 if (!v7.2) = true then
  (spec_raInt 1).bind fun v9 =>
  some (v9, v6.2)
 else
  some (v7.1, v6.2)
noncomputable def spec_l1Cur_anyRat (a0 : Cu) : Option (Qr × Cu) :=
 (spec_l1Cur_rat a0).bind fun v1 =>
 (spec_l1Cur_pick v1.2 40).bind fun v2 =>
 if (v2.1 == 0) = true then
  (spec_l1Cur_among v2.2 ([0, (-1), 1000000001])).bind fun v4 =>
  some ((v1.1.1, v4.1), v4.2)
 else
  if (v2.1 == 1) = true then
   (spec_l1Cur_among v2.2 ([1000000001, (-1000000001), (-9223372036854775808)])).bind fun v6 =>
   some ((v6.1, v1.1.2), v6.2)
  else
   if (v2.1 == 2) = true then
    (spec_l1Cur_among v2.2 ([2, 0, (-4)])).bind fun v8 =>
    (spec_l1Cur_among v8.2 ([2, 4, 6])).bind fun v9 =>
    some ((v8.1, v9.1), v9.2)
   else
    some (v1.1, v2.2)
noncomputable def spec_l1Cur_anyLift_k1  (x4 : ((List Int) × Int × Int × (List Qp))) : Option ((List Qp) × Cu) :=
 some (x4.2.2.2, (x4.1, x4.2.1, x4.2.2.1))
noncomputable def spec_l1Cur_anyLift_b1 (v5 : (Int × Cu)) (x15 : (List Qp)) : Option ((List Qp) ⊕ ((List Int) × Int × Int × (List Qp))) :=
 if (decide ((x15.length : Int) < 13)) = true then
  (spec_raMake (x15.length : Int) 12).bind fun v18 =>
  (guardO (x15.length + ([(v18.1, v18.1)]).length ≤ 1099511627776)).bind fun u19 =>
  some (.inl (x15 ++ [(v18.1, v18.1)]))
 else
  some (.inr (v5.2.1, v5.2.2.1, v5.2.2.2, x15))
noncomputable def spec_l1Cur_anyLift (a0 : Cu) : Option ((List Qp) × Cu) :=
 (spec_l1Cur_lift a0).bind fun v1 =>
 (spec_l1Cur_pick v1.2 (v1.1.length : Int)).bind fun v2 =>
 (idxO v1.1 v2.1).bind fun v3 =>
 (spec_l1Cur_pick v2.2 36).bind fun v5 =>
 if (v5.1 == 0) = true then
  (spec_l1Cur_anyRat v5.2).bind fun v7 =>
  spec_l1Cur_anyLift_k1 (v7.2.1, v7.2.2.1, v7.2.2.2, (v1.1.set (Int.toNat v2.1) (v7.1, v3.2)))
 else
  if (v5.1 == 1) = true then
   (spec_l1Cur_anyRat v5.2).bind fun v9 =>
   spec_l1Cur_anyLift_k1 (v9.2.1, v9.2.2.1, v9.2.2.2, (v1.1.set (Int.toNat v2.1) (v3.1, v9.1)))
  else
   if (v5.1 == 2) = true then
    (spec_l1Cur_among v5.2 ([1, 6, (-6)])).bind fun v11 =>
    (spec_liPlus v3.2 v11.1).bind fun v12 =>
    spec_l1Cur_anyLift_k1 (v11.2.1, v11.2.2.1, v11.2.2.2, (v1.1.set (Int.toNat v2.1) (v3.1, v12)))
   else
    if (v5.1 == 3) = true then
     some ([], v5.2)
    else
     if (v5.1 == 4) = true then
      (loopO (spec_l1Cur_anyLift_b1 v5) ([])).bind fun y16 => spec_l1Cur_anyLift_k1 y16
     else
      spec_l1Cur_anyLift_k1 (v5.2.1, v5.2.2.1, v5.2.2.2, v1.1)
noncomputable def spec_l1Cur_farRat (a0 : Cu) : Option (Qr × Cu) :=
 (spec_l1Cur_among a0 ([1, 2, 3, 4, 5, 8, 12])).bind fun v1 =>
 (spec_l1Cur_gridRat v1.2 v1.1).bind fun v2 =>
 (spec_l1Cur_pick v2.2 8).bind fun v3 =>
 if (v3.1 == 0) = true then
  (spec_l1Cur_among v3.2 ([(-1), 1, 7, (-20), 999, (-1000)])).bind fun v5 =>
  (spec_liPlus v2.1 v5.1).bind fun v6 =>
  some (v6, v5.2)
 else
  if (v3.1 == 1) = true then
   (spec_l1Cur_among v3.2 ([1000, 1001, (-1000), (-1001)])).bind fun v8 =>
   some ((v8.1, 1), v8.2)
  else
   if (v3.1 == 2) = true then
    (spec_l1Cur_anyRat v3.2).bind fun v10 =>
    some v10
   else
    some (v2.1, v3.2)
noncomputable def spec_l1Cur_stepsOf (a0 : Cu) : Option (Int × Cu) :=
 (spec_l1Cur_among a0 ([61, (-1)])).bind fun v1 =>
 (spec_l1Cur_among v1.2 ([0, 1, 2, 3, 5, 8, 20, 60, v1.1])).bind fun v2 =>
 some v2
noncomputable def spec_DrawLiftOrbit (a0 : (List Int)) : Option ((List Qp) × Qr × Int) :=
 (spec_l1Cur_anyLift (a0, 0, 0)).bind fun v1 =>
 (spec_l1Cur_farRat v1.2).bind fun v2 =>
 (spec_l1Cur_stepsOf v2.2).bind fun v3 =>
 some (v1.1, v2.1, v3.1)
noncomputable def slices_IndexFunc_Limpl_Point_impl_Point_k1  (x1 : Unit) : Option Int :=
 some (-1)
noncomputable def slices_IndexFunc_Limpl_Point_impl_Point_b1 (a0 : (List Qp)) (a1 : Qp → Option Bool) (x2 : Int) : Option (Int ⊕ (Int ⊕ Unit)) :=
 if (decide (x2 < (a0.length : Int))) = true then
  (idxO a0 x2).bind fun v5 =>
  (a1 v5).bind fun v6 =>
  if v6 = true then
   some (.inr (.inl x2))
  else
   some (.inl (w64 (x2 + 1)))
 else
  some (.inr (.inr ()))
noncomputable def slices_IndexFunc_Limpl_Point_impl_Point (a0 : (List Qp)) (a1 : (Qp → Option Bool)) : Option Int :=
 (loopO (slices_IndexFunc_Limpl_Point_impl_Point_b1 a0 a1) 0).bind fun y3 => (Sum.elim (fun p => some p) (fun p => slices_IndexFunc_Limpl_Point_impl_Point_k1 p)) y3
noncomputable def slices_ContainsFunc_Limpl_Point_impl_Point (a0 : (List Qp)) (a1 : (Qp → Option Bool)) : Option Bool :=
 (slices_IndexFunc_Limpl_Point_impl_Point a0 a1).bind fun v1 =>
 some (decide (v1 ≥ 0))
noncomputable def impl_isUnit (a0 : Qr) : Option Bool :=
 (impl_isRat a0).bind fun v1 =>
 some (v1 && ((decide (a0.1 ≥ 0)) && (decide (a0.1 ≤ a0.2))))
noncomputable def impl_isCoord (a0 : Qr) : Option Bool :=
 (impl_isUnit a0).bind fun v1 =>
 some (v1 && (decide (a0.2 ≤ 100)))
noncomputable def impl_isLift_1 (a0 : Qp) : Option Bool :=
 (impl_isCoord a0.1).bind fun v1 =>
 (if (!v1) = true then
   some true
  else
   (impl_isRat a0.2).bind fun v2 =>
   if (!v2) = true then
    some true
   else
    if (decide (a0.2.2 > 100)) = true then
     some true
    else
     (impl_whole (-5)).bind fun v3 =>
     (impl_less a0.2 v3).bind fun v4 =>
     if v4 = true then
      some true
     else
      (impl_whole 5).bind fun v5 =>
      (impl_less v5 a0.2).bind fun v6 =>
      some v6).bind fun w7 =>
 some w7
noncomputable def impl_zero  : Option Qr :=
 some (0, 1)
noncomputable def impl_oneRat  : Option Qr :=
 some (1, 1)
noncomputable def impl_isLift_k1 (a0 : (List Qp)) (x5 : Unit) : Option Bool :=
 (idxO a0 0).bind fun v6 =>
 (idxO a0 (w64 ((a0.length : Int) - 1))).bind fun v7 =>
 (impl_zero).bind fun v8 =>
 (if ((v6.1.1 == v8.1) && (v6.1.2 == v8.2)) = true then
   (impl_oneRat).bind fun v9 =>
   if ((v7.1.1 == v9.1) && (v7.1.2 == v9.2)) = true then
    some ((v7.2.1 == (w64 (v6.2.1 + v6.2.2))) && (v7.2.2 == v6.2.2))
   else
    some false
  else
   some false).bind fun w10 =>
 some w10
noncomputable def impl_isLift_b1 (a0 : (List Qp)) (x11 : Int) : Option (Int ⊕ (Bool ⊕ Unit)) :=
 if (decide (x11 < (a0.length : Int))) = true then
  (idxO a0 (w64 (x11 - 1))).bind fun v14 =>
  (idxO a0 x11).bind fun v15 =>
  (impl_less v14.1 v15.1).bind fun v16 =>
  (if (!v16) = true then
    some true
   else
    (impl_less v15.2 v14.2).bind fun v17 =>
    some v17).bind fun w18 =>
  if w18 = true then
   some (.inr (.inl false))
  else
   some (.inl (w64 (x11 + 1)))
 else
  some (.inr (.inr ()))
noncomputable def impl_isLift (a0 : (List Qp)) : Option Bool :=
 (impl_within (a0.length : Int) 2 12).bind fun v1 =>
 (if (!v1) = true then
   some true
  else
   (slices_ContainsFunc_Limpl_Point_impl_Point a0 (fun x0 => impl_isLift_1 x0)).bind fun v2 =>
   some v2).bind fun w3 =>
 if w3 = true then
  some false
 else
  (loopO (impl_isLift_b1 a0) 1).bind fun y12 => (Sum.elim (fun p => some p) (fun p => impl_isLift_k1 a0 p)) y12
noncomputable def impl_calc_keep (a0 : Bool) (a1 : Qr) (a2 : Bool) : Option (Qr × Bool) :=
 if (!a2) = true then
  (impl_zero).bind fun v2 =>
  some (v2, true)
 else
  some (a1, a0)
noncomputable def impl_calc_sub (a0 : Bool) (a1 : Qr) (a2 : Qr) : Option (Qr × Bool) :=
 (impl_SubtractRats a1 a2).bind fun v1 =>
 (impl_calc_keep a0 v1.1 v1.2).bind fun v2 =>
 some v2
noncomputable def impl_pieceAt_1 (a0 : Qp) (c0 : Qr) : Option Bool :=
 (impl_less a0.1 c0).bind fun v1 =>
 some (!v1)
noncomputable def impl_pieceAt (a0 : (List Qp)) (a1 : Qr) : Option Int :=
 (slices_IndexFunc_Limpl_Point_impl_Point a0 (fun x0 => impl_pieceAt_1 x0 a1)).bind fun v1 =>
 some (if (w64 (v1 - 1)) < 0 then 0 else (w64 (v1 - 1)))
noncomputable def impl_DivideRats (a0 : Qr) (a1 : Qr) : Option (Qr × Bool) :=
 (impl_areRats ([a0, a1])).bind fun v1 =>
 if ((!v1) || (a1.1 == 0)) = true then
  some ((0, 0), false)
 else
  (impl_lowest (w64 (a0.1 * a1.2)) (w64 (a0.2 * a1.1))).bind fun v3 =>
  some v3
noncomputable def impl_calc_div (a0 : Bool) (a1 : Qr) (a2 : Qr) : Option (Qr × Bool) :=
 (impl_DivideRats a1 a2).bind fun v1 =>
 (impl_calc_keep a0 v1.1 v1.2).bind fun v2 =>
 some v2
noncomputable def impl_calc_slope (a0 : Bool) (a1 : Qp) (a2 : Qp) : Option (Qr × Bool) :=
 (impl_calc_sub a0 a2.2 a1.2).bind fun v1 =>
 (impl_calc_sub v1.2 a2.1 a1.1).bind fun v2 =>
 (impl_calc_div v2.2 v1.1 v2.1).bind fun v3 =>
 some v3
noncomputable def impl_MultiplyRats (a0 : Qr) (a1 : Qr) : Option (Qr × Bool) :=
 (impl_areRats ([a0, a1])).bind fun v1 =>
 if (!v1) = true then
  some ((0, 0), false)
 else
  (impl_lowest (w64 (a0.1 * a1.1)) (w64 (a0.2 * a1.2))).bind fun v3 =>
  some v3
noncomputable def impl_calc_mul (a0 : Bool) (a1 : Qr) (a2 : Qr) : Option (Qr × Bool) :=
 (impl_MultiplyRats a1 a2).bind fun v1 =>
 (impl_calc_keep a0 v1.1 v1.2).bind fun v2 =>
 some v2
noncomputable def impl_calc_add (a0 : Bool) (a1 : Qr) (a2 : Qr) : Option (Qr × Bool) :=
 (impl_AddRats a1 a2).bind fun v1 =>
 (impl_calc_keep a0 v1.1 v1.2).bind fun v2 =>
 some v2
noncomputable def impl_calc_line (a0 : Bool) (a1 : Qp) (a2 : Qr) (a3 : Qr) : Option (Qr × Bool) :=
 (impl_calc_sub a0 a3 a1.1).bind fun v1 =>
 (impl_calc_mul v1.2 a2 v1.1).bind fun v2 =>
 (impl_calc_add v2.2 a1.2 v2.1).bind fun v3 =>
 some v3
noncomputable def impl_calc_value (a0 : Bool) (a1 : (List Qp)) (a2 : Qr) : Option (Qr × Bool) :=
 (impl_pieceAt a1 a2).bind fun v1 =>
 (idxO a1 v1).bind fun v2 =>
 (idxO a1 (w64 (v1 + 1))).bind fun v3 =>
 (impl_calc_slope a0 v2 v3).bind fun v4 =>
 (impl_calc_line v4.2 v2 v4.1 a2).bind fun v5 =>
 some v5
noncomputable def impl_calc_lift (a0 : Bool) (a1 : (List Qp)) (a2 : Qr) : Option (Qr × Bool) :=
 (impl_floor a2).bind fun v1 =>
 (impl_whole v1).bind fun v2 =>
 (impl_calc_sub a0 a2 v2).bind fun v3 =>
 (impl_calc_value v3.2 a1 v3.1).bind fun v4 =>
 (impl_calc_add v4.2 v4.1 v2).bind fun v5 =>
 some v5
noncomputable def impl_liftOrbit_k1  (x1 : (List Qr)) : Option ((List Qr) × Bool) :=
 some (x1, true)
noncomputable def impl_liftOrbit_b1 (a0 : (List Qp)) (a2 : Int) (x2 : (Int × Int × Bool × (List Qr) × Int)) : Option ((Int × Int × Bool × (List Qr) × Int) ⊕ (((List Qr) × Bool) ⊕ (List Qr))) :=
 if (decide (x2.2.2.2.2 < a2)) = true then
  (impl_isFar (x2.1, x2.2.1)).bind fun v5 =>
  if (!v5) = true then
   some (.inr (.inl ([], false)))
  else
   (impl_calc_lift x2.2.2.1 a0 (x2.1, x2.2.1)).bind fun v7 =>
   if v7.2 = true then
    some (.inr (.inl ([], false)))
   else
    (guardO (x2.2.2.2.1.length + ([v7.1]).length ≤ 1099511627776)).bind fun u9 =>
    some (.inl (v7.1.1, v7.1.2, v7.2, (x2.2.2.2.1 ++ [v7.1]), (w64 (x2.2.2.2.2 + 1))))
 else
  some (.inr (.inr x2.2.2.2.1))
noncomputable def impl_liftOrbit (a0 : (List Qp)) (a1 : Qr) (a2 : Int) : Option ((List Qr) × Bool) :=
 (loopO (impl_liftOrbit_b1 a0 a2) (a1.1, a1.2, false, [a1], 0)).bind fun y3 => (Sum.elim (fun p => some p) (fun p => impl_liftOrbit_k1 p)) y3
noncomputable def impl_LiftOrbit (a0 : (List Qp)) (a1 : Qr) (a2 : Int) : Option ((List Qr) × Bool) :=
 (impl_isLift a0).bind fun v1 =>
 (if (!v1) = true then
   some true
  else
   (impl_isFar a1).bind fun v2 =>
   if (!v2) = true then
    some true
   else
    (impl_within a2 0 60).bind fun v3 =>
    some (!v3)).bind fun w4 =>
 if w4 = true then
  some ([], false)
 else
  (impl_liftOrbit a0 a1 a2).bind fun v6 =>
  some v6
noncomputable def spec_orSteps (a0 : Int) : Option Bool :=
 (spec_l1In a0 0 60).bind fun v1 =>
 some v1
noncomputable def spec_imPiece_k1  (x1 : Int) : Option Int :=
 some x1
noncomputable def spec_imPiece_b1 (a0 : (List Qp)) (a1 : Qr) (x2 : Int) : Option (Int ⊕ Int) :=
 (if (decide ((w64 (x2 + 2)) < (a0.length : Int))) = true then
   (idxO a0 (w64 (x2 + 1))).bind fun v4 =>
   (spec_raCmp v4.1 a1).bind fun v5 =>
   some (decide (v5 < 0))
  else
   some false).bind fun w6 =>
 if w6 = true then
  some (.inl (w64 (x2 + 1)))
 else
  some (.inr x2)
noncomputable def spec_imPiece (a0 : (List Qp)) (a1 : Qr) : Option Int :=
 (loopO (spec_imPiece_b1 a0 a1) 0).bind fun y3 => spec_imPiece_k1 y3
noncomputable def spec_raSub (a0 : Qr) (a1 : Qr) : Option (Qr × Bool) :=
 (spec_raMake (w64 ((w64 (a0.1 * a1.2)) - (w64 (a1.1 * a0.2)))) (w64 (a0.2 * a1.2))).bind fun v1 =>
 some v1
noncomputable def spec_raDiv (a0 : Qr) (a1 : Qr) : Option (Qr × Bool) :=
 if (a1.1 == 0) = true then
  some ((0, 0), false)
 else
  (spec_raMake (w64 (a0.1 * a1.2)) (w64 (a0.2 * a1.1))).bind fun v2 =>
  some v2
noncomputable def spec_imSlope (a0 : Qp) (a1 : Qp) : Option Qr :=
 (spec_raSub a1.2 a0.2).bind fun v1 =>
 (spec_raSub a1.1 a0.1).bind fun v2 =>
 (spec_raDiv v1.1 v2.1).bind fun v3 =>
 some v3.1
noncomputable def spec_raMul (a0 : Qr) (a1 : Qr) : Option (Qr × Bool) :=
 (spec_raMake (w64 (a0.1 * a1.1)) (w64 (a0.2 * a1.2))).bind fun v1 =>
 some v1
noncomputable def spec_imOn (a0 : Qp) (a1 : Qp) (a2 : Qr) : Option (Qr × Bool) :=
 (spec_raSub a2 a0.1).bind fun v1 =>
 (spec_imSlope a0 a1).bind fun v2 =>
 (spec_raMul v1.1 v2).bind fun v3 =>
 if ((!v1.2) || (!v3.2)) = true then
  some ((0, 0), false)
 else
  (spec_raAdd a0.2 v3.1).bind fun v5 =>
  some v5
noncomputable def spec_imAt (a0 : (List Qp)) (a1 : Qr) : Option (Qr × Bool) :=
 (spec_imPiece a0 a1).bind fun v1 =>
 (idxO a0 v1).bind fun v2 =>
 (idxO a0 (w64 (v1 + 1))).bind fun v3 =>
 (spec_imOn v2 v3 a1).bind fun v4 =>
 some v4
noncomputable def spec_liAt (a0 : (List Qp)) (a1 : Qr) : Option (Qr × Bool) :=
 (spec_raFloor a1).bind fun v1 =>
 (spec_liPlus a1 (w64 (0 - v1))).bind fun v2 =>
 (spec_imAt a0 v2).bind fun v3 =>
 if (!v3.2) = true then
  some ((0, 0), false)
 else
  (spec_raInt v1).bind fun v5 =>
  (spec_raAdd v3.1 v5).bind fun v6 =>
  some v6
noncomputable def spec_liRun_k1  (x1 : (List Qr)) : Option ((List Qr) × Bool) :=
 some (x1, true)
noncomputable def spec_liRun_b1 (a0 : (List Qp)) (a2 : Int) (x2 : (List Qr)) : Option ((List Qr) ⊕ (((List Qr) × Bool) ⊕ (List Qr))) :=
 if (decide ((x2.length : Int) ≤ a2)) = true then
  (idxO x2 (w64 ((x2.length : Int) - 1))).bind fun v5 =>
  (spec_liNear v5).bind fun v6 =>
  if (!v6) = true then
   some (.inr (.inl ([], false)))
  else
   (spec_liAt a0 v5).bind fun v8 =>
   if (!v8.2) = true then
    some (.inr (.inl ([], false)))
   else
    (guardO (x2.length + ([v8.1]).length ≤ 1099511627776)).bind fun u10 =>
    some (.inl (x2 ++ [v8.1]))
 else
  some (.inr (.inr x2))
noncomputable def spec_liRun (a0 : (List Qp)) (a1 : Qr) (a2 : Int) : Option ((List Qr) × Bool) :=
 (loopO (spec_liRun_b1 a0 a2) ([a1])).bind fun y3 => (Sum.elim (fun p => some p) (fun p => spec_liRun_k1 p)) y3
noncomputable def spec_LiftOrbit (a0 : (List Qp)) (a1 : Qr) (a2 : Int) : Option ((List Qr) × Bool) :=
 (spec_liGood a0).bind fun v1 =>
 (if (!v1) = true then
   some true
  else
   (spec_liNear a1).bind fun v2 =>
   if (!v2) = true then
    some true
   else
    (spec_orSteps a2).bind fun v3 =>
    some (!v3)).bind fun w4 =>
 if w4 = true then
  some ([], false)
 else
  (spec_liRun a0 a1 a2).bind fun v6 =>
  some v6
noncomputable def spec_DrawLiftCycle (a0 : (List Int)) : Option ((List Qp) × Qr × Int) :=
 (spec_l1Cur_anyLift (a0, 0, 0)).bind fun v1 =>
 (spec_l1Cur_farRat v1.2).bind fun v2 =>
 (spec_l1Cur_stepsOf v2.2).bind fun v3 =>
 (spec_l1Cur_among v3.2 ([1, 2, 3, 5, 8, 13, 60, v3.1])).bind fun v4 =>
 some (v1.1, v2.1, v4.1)
noncomputable def impl_difference (a0 : Qr) (a1 : Qr) : Option (Int × Bool) :=
 (impl_SubtractRats a0 a1).bind fun v1 =>
 if ((!v1.2) || (v1.1.2 != 1)) = true then
  some (0, false)
 else
  some (v1.1.1, true)
noncomputable def impl_LiftCycle (a0 : (List Qp)) (a1 : Qr) (a2 : Int) : Option (Int × Bool) :=
 if (decide (a2 < 1)) = true then
  some (0, false)
 else
  (impl_LiftOrbit a0 a1 a2).bind fun v2 =>
  if (!v2.2) = true then
   some (0, false)
  else
   (idxO v2.1 a2).bind fun v4 =>
   (impl_difference v4 a1).bind fun v5 =>
   some v5
noncomputable def spec_liCycle (a0 : (List Qp)) (a1 : Qr) (a2 : Int) : Option (Int × Bool) :=
 (spec_liRun a0 a1 a2).bind fun v1 =>
 if (!v1.2) = true then
  some (0, false)
 else
  (idxO v1.1 a2).bind fun v3 =>
  (spec_raSub v3 a1).bind fun v4 =>
  if ((!v4.2) || (v4.1.2 != 1)) = true then
   some (0, false)
  else
   some (v4.1.1, true)
noncomputable def spec_LiftCycle (a0 : (List Qp)) (a1 : Qr) (a2 : Int) : Option (Int × Bool) :=
 (spec_liGood a0).bind fun v1 =>
 (if (!v1) = true then
   some true
  else
   (spec_liNear a1).bind fun v2 =>
   if (!v2) = true then
    some true
   else
    (spec_l1In a2 1 60).bind fun v3 =>
    some (!v3)).bind fun w4 =>
 if w4 = true then
  some (0, false)
 else
  (spec_liCycle a0 a1 a2).bind fun v6 =>
  some v6
noncomputable def spec_DrawLiftAt (a0 : (List Int)) : Option ((List Qp) × Qr) :=
 (spec_l1Cur_anyLift (a0, 0, 0)).bind fun v1 =>
 (spec_l1Cur_farRat v1.2).bind fun v2 =>
 some (v1.1, v2.1)
noncomputable def spec_DrawTurnLift (a0 : (List Int)) : Option ((List Qp) × Qr) :=
 (spec_DrawLiftAt a0).bind fun v1 =>
 some v1
noncomputable def impl_TurnLift_k1  (x5 : (Bool × (List Qp))) : Option ((List Qp) × Bool) :=
 (if x5.1 = true then
   some true
  else
   (impl_isLift x5.2).bind fun v6 =>
   some (!v6)).bind fun w7 =>
 if w7 = true then
  some ([], false)
 else
  some (x5.2, true)
noncomputable def impl_TurnLift_b1 (a0 : (List Qp)) (a1 : Qr) (x9 : (Bool × (List Qp) × Int)) : Option ((Bool × (List Qp) × Int) ⊕ (Bool × (List Qp))) :=
 if (decide (x9.2.2 < (a0.length : Int))) = true then
  (idxO a0 x9.2.2).bind fun v12 =>
  (impl_calc_add x9.1 v12.2 a1).bind fun v13 =>
  (guardO (x9.2.1.length + ([(v12.1, v13.1)]).length ≤ 1099511627776)).bind fun u14 =>
  some (.inl (v13.2, (x9.2.1 ++ [(v12.1, v13.1)]), (w64 (x9.2.2 + 1))))
 else
  some (.inr (x9.1, x9.2.1))
noncomputable def impl_TurnLift (a0 : (List Qp)) (a1 : Qr) : Option ((List Qp) × Bool) :=
 (impl_isLift a0).bind fun v1 =>
 (if (!v1) = true then
   some true
  else
   (impl_isFar a1).bind fun v2 =>
   some (!v2)).bind fun w3 =>
 if w3 = true then
  some ([], false)
 else
  (loopO (impl_TurnLift_b1 a0 a1) (false, [], 0)).bind fun y10 => impl_TurnLift_k1 y10
noncomputable def spec_liIf (a0 : (List Qp)) : Option ((List Qp) × Bool) :=
 (spec_liGood a0).bind fun v1 =>
 if (!v1) = true then
  some ([], false)
 else
  some (a0, true)
noncomputable def spec_liTurn_k1  (x1 : (List Qp)) : Option ((List Qp) × Bool) :=
 (spec_liIf x1).bind fun v2 =>
 some v2
noncomputable def spec_liTurn_b1 (a0 : (List Qp)) (a1 : Qr) (x3 : ((List Qp) × Int)) : Option (((List Qp) × Int) ⊕ (((List Qp) × Bool) ⊕ (List Qp))) :=
 if (decide (x3.2 < (a0.length : Int))) = true then
  (idxO a0 x3.2).bind fun v6 =>
  (spec_raAdd v6.2 a1).bind fun v7 =>
  if (!v7.2) = true then
   some (.inr (.inl ([], false)))
  else
   (guardO (x3.1.length + ([(v6.1, v7.1)]).length ≤ 1099511627776)).bind fun u9 =>
   some (.inl ((x3.1 ++ [(v6.1, v7.1)]), (w64 (x3.2 + 1))))
 else
  some (.inr (.inr x3.1))
noncomputable def spec_liTurn (a0 : (List Qp)) (a1 : Qr) : Option ((List Qp) × Bool) :=
 (loopO (spec_liTurn_b1 a0 a1) ([], 0)).bind fun y4 => (Sum.elim (fun p => some p) (fun p => spec_liTurn_k1 p)) y4
noncomputable def spec_TurnLift (a0 : (List Qp)) (a1 : Qr) : Option ((List Qp) × Bool) :=
 (spec_liGood a0).bind fun v1 =>
 (if (!v1) = true then
   some true
  else
   (spec_liNear a1).bind fun v2 =>
   some (!v2)).bind fun w3 =>
 if w3 = true then
  some ([], false)
 else
  (spec_liTurn a0 a1).bind fun v5 =>
  some v5
noncomputable def laws_qRats_k1  (x2 : Unit) : Option Bool :=
 some true
noncomputable def laws_qRats_b1 (a0 : (List Qr)) (a1 : (List Qr)) (x3 : Int) : Option (Int ⊕ (Bool ⊕ Unit)) :=
 if (decide (x3 < (a0.length : Int))) = true then
  (idxO a0 x3).bind fun v6 =>
  (idxO a1 x3).bind fun v7 =>
  if (!((v6.1 == v7.1) && (v6.2 == v7.2))) = true then
   some (.inr (.inl false))
  else
   some (.inl (w64 (x3 + 1)))
 else
  some (.inr (.inr ()))
noncomputable def laws_qRats (a0 : (List Qr)) (a1 : (List Qr)) : Option Bool :=
 if ((a0.length : Int) != (a1.length : Int)) = true then
  some false
 else
  (loopO (laws_qRats_b1 a0 a1) 0).bind fun y4 => (Sum.elim (fun p => some p) (fun p => laws_qRats_k1 p)) y4
noncomputable def laws_qMap_k1  (x2 : Unit) : Option Bool :=
 some true
noncomputable def laws_qMap_b1 (a0 : (List Qp)) (a1 : (List Qp)) (x3 : Int) : Option (Int ⊕ (Bool ⊕ Unit)) :=
 if (decide (x3 < (a0.length : Int))) = true then
  (idxO a0 x3).bind fun v6 =>
  (idxO a1 x3).bind fun v7 =>
  if (!(((v6.1.1 == v7.1.1) && (v6.1.2 == v7.1.2)) && ((v6.2.1 == v7.2.1) && (v6.2.2 == v7.2.2)))) = true then
   some (.inr (.inl false))
  else
   some (.inl (w64 (x3 + 1)))
 else
  some (.inr (.inr ()))
noncomputable def laws_qMap (a0 : (List Qp)) (a1 : (List Qp)) : Option Bool :=
 if ((a0.length : Int) != (a1.length : Int)) = true then
  some false
 else
  (loopO (laws_qMap_b1 a0 a1) 0).bind fun y4 => (Sum.elim (fun p => some p) (fun p => laws_qMap_k1 p)) y4
noncomputable def impl_IsLift (a0 : (List Qp)) : Option Bool :=
 (impl_isLift a0).bind fun v1 =>
 some v1
noncomputable def impl_calc_moves_k1  (x1 : (Bool × (List Qr))) : Option (Qr × Qr × Bool) :=
 (slices_MinFunc_Limpl_Rat_impl_Rat x1.2 (fun x0 x1 => impl_compare x0 x1)).bind fun v2 =>
 (slices_MaxFunc_Limpl_Rat_impl_Rat x1.2 (fun x0 x1 => impl_compare x0 x1)).bind fun v3 =>
 some (v2, v3, x1.1)
noncomputable def impl_calc_moves_b1 (a1 : (List Qp)) (x4 : (Bool × (List Qr) × Int)) : Option ((Bool × (List Qr) × Int) ⊕ (Bool × (List Qr))) :=
 if (decide (x4.2.2 < (a1.length : Int))) = true then
  (idxO a1 x4.2.2).bind fun v7 =>
  (impl_calc_sub x4.1 v7.2 v7.1).bind fun v8 =>
  (guardO (x4.2.1.length + ([v8.1]).length ≤ 1099511627776)).bind fun u9 =>
  some (.inl (v8.2, (x4.2.1 ++ [v8.1]), (w64 (x4.2.2 + 1))))
 else
  some (.inr (x4.1, x4.2.1))
noncomputable def impl_calc_moves (a0 : Bool) (a1 : (List Qp)) : Option (Qr × Qr × Bool) :=
 (loopO (impl_calc_moves_b1 a1) (a0, [], 0)).bind fun y5 => impl_calc_moves_k1 y5
noncomputable def impl_Displacements (a0 : (List Qp)) : Option (Qr × Qr × Bool) :=
 (impl_isLift a0).bind fun v1 =>
 if (!v1) = true then
  some ((0, 0), (0, 0), false)
 else
  (impl_calc_moves false a0).bind fun v3 =>
  some (v3.1, v3.2.1, true)
noncomputable def spec_Displacements_k1  (x5 : (Int × Int × Int × Int)) : Option (Qr × Qr × Bool) :=
 some ((x5.1, x5.2.1), x5.2.2, true)
noncomputable def spec_Displacements_b1 (a0 : (List Qp)) (x6 : (Int × Int × Int × Int × Int)) : Option ((Int × Int × Int × Int × Int) ⊕ (Int × Int × Int × Int)) :=
 if (decide (x6.2.2.2.2 < (a0.length : Int))) = true then
  (idxO a0 x6.2.2.2.2).bind fun v9 =>
  (spec_raSub v9.2 v9.1).bind fun v10 =>
  (spec_ivLess (x6.1, x6.2.1) v10.1).bind fun v11 =>
  (spec_ivGreater (x6.2.2.1, x6.2.2.2.1) v10.1).bind fun v12 =>
  some (.inl (v11.1, v11.2, v12.1, v12.2, (w64 (x6.2.2.2.2 + 1))))
 else
  some (.inr (x6.1, x6.2.1, x6.2.2.1, x6.2.2.2.1))
noncomputable def spec_Displacements (a0 : (List Qp)) : Option (Qr × Qr × Bool) :=
 (spec_liGood a0).bind fun v1 =>
 if (!v1) = true then
  some ((0, 0), (0, 0), false)
 else
  (idxO a0 0).bind fun v3 =>
  (spec_raSub v3.2 v3.1).bind fun v4 =>
  (loopO (spec_Displacements_b1 a0) (v4.1.1, v4.1.2, v4.1.1, v4.1.2, 0)).bind fun y7 => spec_Displacements_k1 y7
noncomputable def spec_raTwo (a0 : Qr) (a1 : Qr) : Option Bool :=
 (spec_raGood a0).bind fun v1 =>
 (if v1 = true then
   (spec_raGood a1).bind fun v2 =>
   some v2
  else
   some false).bind fun w3 =>
 some w3
noncomputable def spec_AddRats (a0 : Qr) (a1 : Qr) : Option (Qr × Bool) :=
 (spec_raTwo a0 a1).bind fun v1 =>
 if (!v1) = true then
  some ((0, 0), false)
 else
  (spec_raAdd a0 a1).bind fun v3 =>
  some v3
noncomputable def laws_qUp (a0 : Qr) (a1 : Qr) : Option Int :=
 if (decide ((w64 ((w64 (a0.1 * a1.2)) - (w64 (a1.1 * a0.2)))) < 0)) = true then
  some (-1)
 else
  if (decide ((w64 ((w64 (a0.1 * a1.2)) - (w64 (a1.1 * a0.2)))) > 0)) = true then
   some 1
  else
   some 0
noncomputable def laws_FnLiftOrbits_k3  (x26 : Unit) : Option Bool :=
 some true
noncomputable def laws_FnLiftOrbits_b1 (v2 : ((List Qp) × Qr × Int)) (v4 : ((List Qr) × Bool)) (v22 : ((List Qr) × Bool)) (x27 : Int) : Option (Int ⊕ (Bool ⊕ Unit)) :=
 if (decide (x27 < (v22.1.length : Int))) = true then
  (idxO v22.1 x27).bind fun v30 =>
  (laws_qUp (0, 1) v2.2.1).bind fun v31 =>
  (idxO v4.1 x27).bind fun v32 =>
  (laws_qUp v30 v32).bind fun v33 =>
  if (decide ((w64 (v31 * v33)) < 0)) = true then
   some (.inr (.inl false))
  else
   some (.inl (w64 (x27 + 1)))
 else
  some (.inr (.inr ()))
noncomputable def laws_FnLiftOrbits_k2 (v2 : ((List Qp) × Qr × Int)) (v3 : ((List Qr) × Bool)) (v4 : ((List Qr) × Bool)) (x16 : Unit) : Option Bool :=
 if (!v3.2) = true then
  some true
 else
  (if ((v4.1.length : Int) != (w64 (v2.2.2 + 1))) = true then
    some true
   else
    (idxO v4.1 0).bind fun v18 =>
    some (!((v18.1 == v2.2.1.1) && (v18.2 == v2.2.1.2)))).bind fun w19 =>
  if w19 = true then
   some false
  else
   (impl_LiftOrbit v2.1 (0, 1) v2.2.2).bind fun v21 =>
   (spec_LiftOrbit v2.1 (0, 1) v2.2.2).bind fun v22 =>
   (if (!(v21.2 == v22.2)) = true then
     some true
    else
     (laws_qRats v21.1 v22.1).bind fun v23 =>
     some (!v23)).bind fun w24 =>
   if w24 = true then
    some false
   else
    (loopO (laws_FnLiftOrbits_b1 v2 v4 v22) 0).bind fun y28 => (Sum.elim (fun p => some p) (fun p => laws_FnLiftOrbits_k3 p)) y28
noncomputable def laws_FnLiftOrbits_k1 (v2 : ((List Qp) × Qr × Int)) (v3 : ((List Qr) × Bool)) (v4 : ((List Qr) × Bool)) (v8 : ((List Qp) × Qr)) (v9 : ((List Qp) × Bool)) (x15 : Unit) : Option Bool :=
 if v9.2 = true then
  (impl_TurnLift v9.1 ((w64 (0 - v8.2.1)), v8.2.2)).bind fun v36 =>
  (if (!v36.2) = true then
    some true
   else
    (laws_qMap v36.1 v8.1).bind fun v37 =>
    if (!v37) = true then
     some true
    else
     (impl_IsLift v9.1).bind fun v38 =>
     some (!v38)).bind fun w39 =>
  if w39 = true then
   some false
  else
   (impl_Displacements v8.1).bind fun v41 =>
   (impl_Displacements v9.1).bind fun v42 =>
   (spec_Displacements v8.1).bind fun v43 =>
   if ((!v41.2.2) || ((!v42.2.2) || ((!v43.2.2) || ((!((v41.1.1 == v43.1.1) && (v41.1.2 == v43.1.2))) || (!((v41.2.1.1 == v43.2.1.1) && (v41.2.1.2 == v43.2.1.2))))))) = true then
    some false
   else
    (spec_AddRats v43.1 v8.2).bind fun v45 =>
    (spec_AddRats v43.2.1 v8.2).bind fun v46 =>
    if (if v45.2 then ((!((v42.1.1 == v45.1.1) && (v42.1.2 == v45.1.2))) || (v46.2 && (!((v42.2.1.1 == v46.1.1) && (v42.2.1.2 == v46.1.2))))) else (v46.2 && (!((v42.2.1.1 == v46.1.1) && (v42.2.1.2 == v46.1.2))))) = true then
     some false
    else
     laws_FnLiftOrbits_k2 v2 v3 v4 ()
 else
  laws_FnLiftOrbits_k2 v2 v3 v4 ()
noncomputable def laws_FnLiftOrbits (a0 : (List Int)) (a1 : (List Int)) : Option Bool :=
 if (decide ((w64 ((a0.length : Int) + (a1.length : Int))) > 1048576)) = true then
  some true
 else
  (spec_DrawLiftOrbit a0).bind fun v2 =>
  (impl_LiftOrbit v2.1 v2.2.1 v2.2.2).bind fun v3 =>
  (spec_LiftOrbit v2.1 v2.2.1 v2.2.2).bind fun v4 =>
  (spec_DrawLiftCycle a1).bind fun v5 =>
  (impl_LiftCycle v5.1 v5.2.1 v5.2.2).bind fun v6 =>
  (spec_LiftCycle v5.1 v5.2.1 v5.2.2).bind fun v7 =>
  (spec_DrawTurnLift a1).bind fun v8 =>
  (impl_TurnLift v8.1 v8.2).bind fun v9 =>
  (spec_TurnLift v8.1 v8.2).bind fun v10 =>
  (if (!(v3.2 == v4.2)) = true then
    some true
   else
    (laws_qRats v3.1 v4.1).bind fun v11 =>
    if (!v11) = true then
     some true
    else
     if (!(v6.2 == v7.2)) = true then
      some true
     else
      if (v6.1 != v7.1) = true then
       some true
      else
       if (!(v9.2 == v10.2)) = true then
        some true
       else
        (laws_qMap v9.1 v10.1).bind fun v12 =>
        some (!v12)).bind fun w13 =>
  if w13 = true then
   some false
  else
   if v6.2 = true then
    (impl_LiftOrbit v5.1 v5.2.1 v5.2.2).bind fun v49 =>
    (spec_LiftOrbit v5.1 v5.2.1 v5.2.2).bind fun v50 =>
    (if (!v49.2) = true then
      some true
     else
      if (!v50.2) = true then
       some true
      else
       (laws_qRats v49.1 v50.1).bind fun v51 =>
       if (!v51) = true then
        some true
       else
        if ((v50.1.length : Int) != (w64 (v5.2.2 + 1))) = true then
         some true
        else
         (idxO v50.1 v5.2.2).bind fun v52 =>
         some (!((v52.1 == (w64 (v5.2.1.1 + (w64 (v7.1 * v5.2.1.2))))) && (v52.2 == v5.2.1.2)))).bind fun w53 =>
    if w53 = true then
     some false
    else
     laws_FnLiftOrbits_k1 v2 v3 v4 v8 v9 ()
   else
    laws_FnLiftOrbits_k1 v2 v3 v4 v8 v9 ()
end Go.PV
