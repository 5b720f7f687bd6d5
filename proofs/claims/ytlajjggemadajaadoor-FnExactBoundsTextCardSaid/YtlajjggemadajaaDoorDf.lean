/-
  Plain definitions of what the functions answer.
  Conditions: none.
-/
import Derived.Test.YtlajjggemadajaaDoorPvCx
set_option linter.all false
namespace Go.PV
noncomputable def spec_l1In (a0 : Int) (a1 : Int) (a2 : Int) : Option Bool :=
 some ((decide (a0 ≥ a1)) && (decide (a0 ≤ a2)))
noncomputable def impl_within (a0 : Int) (a1 : Int) (a2 : Int) : Option Bool :=
 some ((decide (a1 ≤ a0)) && (decide (a0 ≤ a2)))
noncomputable def laws_toRat (a0 : Qr) : Option Qr :=
 some a0
noncomputable def spec_l1Most (a0 : Int) (a1 : Int) : Option Int :=
 if (decide (a0 > a1)) = true then
  some a0
 else
  some a1
noncomputable def spec_l1Abs (a0 : Int) : Option Int :=
 (spec_l1Most a0 (w64 (0 - a0))).bind fun v1 =>
 some v1
noncomputable def spec_raCommon_k1  (x1 : Int) : Option Int :=
 some x1
noncomputable def spec_raCommon_b1  (x2 : Qr) : Option (Qr ⊕ Int) :=
 if (decide (x2.2 > 0)) = true then
  (guardO (x2.2 ≠ 0)).bind fun u5 =>
  some (.inl (x2.2, (Int.tmod x2.1 x2.2)))
 else
  some (.inr x2.1)
noncomputable def spec_raCommon (a0 : Int) (a1 : Int) : Option Int :=
 (loopO spec_raCommon_b1 (a0, a1)).bind fun y3 => spec_raCommon_k1 y3
noncomputable def spec_raGood (a0 : Qr) : Option Bool :=
 (spec_l1In a0.2 1 1000000000).bind fun v1 =>
 (if v1 = true then
   (spec_l1In a0.1 (-1000000000) 1000000000).bind fun v2 =>
   if v2 = true then
    (spec_l1Abs a0.1).bind fun v3 =>
    (spec_raCommon v3 a0.2).bind fun v4 =>
    some (v4 == 1)
   else
    some false
  else
   some false).bind fun w5 =>
 some w5
noncomputable def impl_abs (a0 : Int) : Option Int :=
 if (decide (a0 < 0)) = true then
  some (w64 (0 - a0))
 else
  some a0
noncomputable def impl_greatestDivisor_k1  (x3 : Int) : Option Int :=
 some x3
noncomputable def impl_greatestDivisor_b1  (x4 : Qr) : Option (Qr ⊕ Int) :=
 if (x4.2 != 0) = true then
  (guardO (x4.2 ≠ 0)).bind fun u7 =>
  some (.inl (x4.2, (Int.tmod x4.1 x4.2)))
 else
  some (.inr x4.1)
noncomputable def impl_greatestDivisor (a0 : Int) (a1 : Int) : Option Int :=
 (impl_abs a0).bind fun v1 =>
 (impl_abs a1).bind fun v2 =>
 (loopO impl_greatestDivisor_b1 (v1, v2)).bind fun y5 => impl_greatestDivisor_k1 y5
noncomputable def impl_isRat (a0 : Qr) : Option Bool :=
 (impl_within a0.2 1 1000000000).bind fun v1 =>
 (if v1 = true then
   (impl_within a0.1 (-1000000000) 1000000000).bind fun v2 =>
   if v2 = true then
    (impl_greatestDivisor a0.1 a0.2).bind fun v3 =>
    some (v3 == 1)
   else
    some false
  else
   some false).bind fun w4 =>
 some w4
noncomputable def impl_compare (a0 : Qr) (a1 : Qr) : Option Int :=
 if (decide ((w64 (a0.1 * a1.2)) < (w64 (a1.1 * a0.2)))) = true then
  some (-1)
 else
  if (decide ((w64 (a0.1 * a1.2)) > (w64 (a1.1 * a0.2)))) = true then
   some 1
  else
   some 0
noncomputable def impl_less (a0 : Qr) (a1 : Qr) : Option Bool :=
 (impl_compare a0 a1).bind fun v1 =>
 some (decide (v1 < 0))
noncomputable def impl_areRats_k1  (x1 : Unit) : Option Bool :=
 some true
noncomputable def impl_areRats_b1 (a0 : (List Qr)) (x2 : Int) : Option (Int ⊕ (Bool ⊕ Unit)) :=
 if (decide (x2 < (a0.length : Int))) = true then
  (idxO a0 x2).bind fun v5 =>
  (impl_isRat v5).bind fun v6 =>
  if (!v6) = true then
   some (.inr (.inl false))
  else
   some (.inl (w64 (x2 + 1)))
 else
  some (.inr (.inr ()))
noncomputable def impl_areRats (a0 : (List Qr)) : Option Bool :=
 (loopO (impl_areRats_b1 a0) 0).bind fun y3 => (Sum.elim (fun p => some p) (fun p => impl_areRats_k1 p)) y3
noncomputable def spec_l1Sign (a0 : Int) : Option Int :=
 if (decide (a0 > 0)) = true then
  some 1
 else
  if (decide (a0 < 0)) = true then
   some (-1)
  else
   some 0
noncomputable def spec_raCmp (a0 : Qr) (a1 : Qr) : Option Int :=
 (spec_l1Sign (w64 ((w64 (a0.1 * a1.2)) - (w64 (a1.1 * a0.2))))).bind fun v1 =>
 some v1
noncomputable def spec_l1Num_r (rc : (Int → Option ByteArray)) (a0 : Int) : Option ByteArray :=
 if (decide (a0 < 10)) = true then
  some (byteB (IntKind.wrap .u8 (w64 (48 + a0))))
 else
  (rc (w64 (Int.tdiv a0 10))).bind fun v2 =>
  (guardO (v2.size + (byteB (IntKind.wrap .u8 (w64 (48 + (Int.tmod a0 10))))).size ≤ 1099511627776)).bind fun u3 =>
  some (v2 ++ (byteB (IntKind.wrap .u8 (w64 (48 + (Int.tmod a0 10))))))
noncomputable def spec_l1Num_f : Nat → Int → Option ByteArray
 | 0, _ => none
 | k + 1, a0 => spec_l1Num_r (spec_l1Num_f k) a0
noncomputable def spec_l1Num (a0 : Int) : Option ByteArray := fuelO fun k => spec_l1Num_f k a0
noncomputable def spec_l1Int (a0 : Int) : Option ByteArray :=
 if (decide (a0 < 0)) = true then
  (spec_l1Num (w64 (0 - a0))).bind fun v2 =>
  (guardO ((ByteArray.mk #[45]).size + v2.size ≤ 1099511627776)).bind fun u3 =>
  some ((ByteArray.mk #[45]) ++ v2)
 else
  (spec_l1Num a0).bind fun v4 =>
  some v4
noncomputable def spec_raText (a0 : Qr) : Option ByteArray :=
 (spec_l1Int a0.1).bind fun v1 =>
 (guardO (v1.size + (ByteArray.mk #[47]).size ≤ 1099511627776)).bind fun u2 =>
 (spec_l1Num a0.2).bind fun v3 =>
 (guardO ((v1 ++ (ByteArray.mk #[47])).size + v3.size ≤ 1099511627776)).bind fun u4 =>
 some ((v1 ++ (ByteArray.mk #[47])) ++ v3)
noncomputable def strconv_Itoa (a0 : Int) : Option ByteArray :=
 (guardO (-9223372036854775808 ≤ a0 ∧ a0 ≤ 9223372036854775807)).bind fun u1 =>
 some (itoaB a0)
noncomputable def impl_ratText (a0 : Qr) : Option ByteArray :=
 (strconv_Itoa a0.1).bind fun v1 =>
 (guardO (v1.size + (ByteArray.mk #[47]).size ≤ 1099511627776)).bind fun u2 =>
 (strconv_Itoa a0.2).bind fun v3 =>
 (guardO ((v1 ++ (ByteArray.mk #[47])).size + v3.size ≤ 1099511627776)).bind fun u4 =>
 some ((v1 ++ (ByteArray.mk #[47])) ++ v3)
noncomputable def impl_BoundsText (a0 : Qr) (a1 : Qr) : Option (ByteArray × Bool) :=
 (impl_areRats ([a0, a1])).bind fun v1 =>
 (if (!v1) = true then
   some true
  else
   (impl_less a1 a0).bind fun v2 =>
   some v2).bind fun w3 =>
 if w3 = true then
  some (ByteArray.empty, false)
 else
  (impl_ratText a0).bind fun v5 =>
  (guardO (v5.size + (ByteArray.mk #[46, 46]).size ≤ 1099511627776)).bind fun u6 =>
  (impl_ratText a1).bind fun v7 =>
  (guardO ((v5 ++ (ByteArray.mk #[46, 46])).size + v7.size ≤ 1099511627776)).bind fun u8 =>
  some (((v5 ++ (ByteArray.mk #[46, 46])) ++ v7), true)
noncomputable def spec_BoundsText (a0 : Qr) (a1 : Qr) : Option (ByteArray × Bool) :=
 (spec_raGood a0).bind fun v1 =>
 (if (!v1) = true then
   some true
  else
   (spec_raGood a1).bind fun v2 =>
   if (!v2) = true then
    some true
   else
    (spec_raCmp a0 a1).bind fun v3 =>
    some (decide (v3 > 0))).bind fun w4 =>
 if w4 = true then
  some (ByteArray.empty, false)
 else
  (spec_raText a0).bind fun v6 =>
  (guardO (v6.size + (ByteArray.mk #[46, 46]).size ≤ 1099511627776)).bind fun u7 =>
  (spec_raText a1).bind fun v8 =>
  (guardO ((v6 ++ (ByteArray.mk #[46, 46])).size + v8.size ≤ 1099511627776)).bind fun u9 =>
  some (((v6 ++ (ByteArray.mk #[46, 46])) ++ v8), true)
noncomputable def laws_FnExactBoundsText (a0 : Qr) (a1 : Qr) : Option Bool :=
 (laws_toRat a0).bind fun v1 =>
 (laws_toRat a1).bind fun v2 =>
 (spec_BoundsText v1 v2).bind fun v3 =>
 (laws_toRat a0).bind fun v4 =>
 (laws_toRat a1).bind fun v5 =>
 (impl_BoundsText v4 v5).bind fun v6 =>
 if ((!(v6.1.toList == v3.1.toList)) || (!(v6.2 == v3.2))) = true then
  some false
 else
  some true
end Go.PV
