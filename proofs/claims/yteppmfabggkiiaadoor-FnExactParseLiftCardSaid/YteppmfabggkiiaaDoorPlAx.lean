/-
  Plain laws of what the functions answer.
  Conditions: none.
-/
import Derived.Lib.IndexMore
import Derived.Lib.AtoiAllCases
import Derived.Test.YteppmfabggkiiaaDoorPvCx
import Derived.Test.YteppmfabggkiiaaDoorDf
set_option linter.all false
/-
 Plain laws: bounds, lists of numbers, vectors.
 Conditions: none.
-/
namespace Go.PV
def inB (a b n : Int) : Bool := decide (a ≤ n) && decide (n ≤ b)
theorem inB_iff {a b n : Int} : inB a b n = true ↔ a ≤ n ∧ n ≤ b := by simp [inB]
theorem spec_l1In_eq (v a b : Int) : spec_l1In v a b = some (inB a b v) := rfl
theorem impl_within_eq (v a b : Int) : impl_within v a b = some (inB a b v) := rfl
def isVec (xs : List Int) : Bool := inB 1 8 xs.length && xs.all (inB 1 1000000)
theorem set_at {α : Type} (xs ys : List α) (i : Nat) (x : α) (hi : xs[i]? = some x) (hl : i < ys.length) : (xs.take i ++ ys.drop i).set i x = xs.take (i + 1) ++ ys.drop (i + 1) := by
 have h1 := getElem?_lt hi
 apply List.ext_getElem?
 intro j
 rw [List.getElem?_set]
 by_cases hj : i = j
 ·subst hj
  have hlen : i < (xs.take i ++ ys.drop i).length := by simp; omega
  rw [if_pos rfl, if_pos hlen, List.getElem?_append_left (by simp; omega), List.getElem?_take_of_lt (by omega), hi]
 ·rw [if_neg hj, List.getElem?_append, List.getElem?_append]
  simp only [List.length_take, List.getElem?_take, List.getElem?_drop]
  by_cases h2 : j < i
  ·simp [show j < i + 1 by omega, h2, show min i xs.length = i by omega, show min (i + 1) xs.length = i + 1 by omega]
  ·have h3 : ¬ j < i + 1 := by omega
   simp [h3, h2, show min i xs.length = i by omega, show min (i + 1) xs.length = i + 1 by omega]
   congr 1
   omega
end Go.PV

/-
 Plain laws: greatest divisors, fractions, floors, fractions reduced.
 Conditions: none.
-/
namespace Go.PV
theorem toNat_gcd_step (a b : Nat) (hb : b ≠ 0) : Nat.gcd b (a % b) = Nat.gcd a b := by
 rw [Nat.gcd_comm a b, Nat.gcd_rec b a, Nat.gcd_comm]
theorem impl_gcd_loop (b : Nat) : ∀ a : Nat, loopO impl_greatestDivisor_b1 ((a : Int), (b : Int)) = some ((Nat.gcd a b : Nat) : Int) := by
 induction b using Nat.strongRecOn with
 | ind b ih =>
  intro a
  rw [loopO_eq]
  by_cases hb : b = 0
  ·subst hb; simp [impl_greatestDivisor_b1]
  ·have hb' : ((b : Int) != 0) = true := by simp; omega
   simp only [impl_greatestDivisor_b1, hb', if_true, guardO_bind_pos (show (b : Int) ≠ 0 by omega)]
   have : Int.tmod (a : Int) (b : Int) = ((a % b : Nat) : Int) := rfl
   rw [this, ih (a % b) (Nat.mod_lt _ (by omega)) b, toNat_gcd_step a b hb]
theorem spec_gcd_loop (b : Nat) : ∀ a : Nat, loopO spec_raCommon_b1 ((a : Int), (b : Int)) = some ((Nat.gcd a b : Nat) : Int) := by
 induction b using Nat.strongRecOn with
 | ind b ih =>
  intro a
  rw [loopO_eq]
  by_cases hb : b = 0
  ·subst hb; simp [spec_raCommon_b1]
  ·have hb' : decide ((b : Int) > 0) = true := by simp; omega
   simp only [spec_raCommon_b1, hb', if_true, guardO_bind_pos (show (b : Int) ≠ 0 by omega)]
   have : Int.tmod (a : Int) (b : Int) = ((a % b : Nat) : Int) := rfl
   rw [this, ih (a % b) (Nat.mod_lt _ (by omega)) b, toNat_gcd_step a b hb]
theorem impl_abs_eq (a : Int) (h : -9223372036854775808 < a) (h2 : a ≤ 9223372036854775807) : impl_abs a = some (a.natAbs : Int) := by
 unfold impl_abs
 by_cases ha : a < 0
 ·simp only [ha, decide_true, if_true]; rw [w64_id (by omega) (by omega)]; congr 1; omega
 ·simp only [ha, decide_false, Bool.false_eq_true, if_false]; congr 1; omega
theorem spec_l1Abs_eq (a : Int) (h : -9223372036854775808 < a) (h2 : a ≤ 9223372036854775807) : spec_l1Abs a = some (a.natAbs : Int) := by
 unfold spec_l1Abs spec_l1Most
 rw [w64_id (by omega) (by omega)]
 by_cases ha : a > 0 - a
 ·simp only [ha, decide_true, if_true, Option.bind_some]; congr 1; omega
 ·simp only [ha, decide_false, Bool.false_eq_true, if_false, Option.bind_some]; congr 1; omega
theorem impl_greatestDivisor_eq (a b : Int) (h : -9223372036854775808 < a) (h2 : a ≤ 9223372036854775807) (h3 : -9223372036854775808 < b) (h4 : b ≤ 9223372036854775807) :
  impl_greatestDivisor a b = some ((Int.gcd a b : Nat) : Int) := by
 simp only [impl_greatestDivisor, impl_abs_eq a h h2, impl_abs_eq b h3 h4, Option.bind_some, impl_gcd_loop, impl_greatestDivisor_k1]
 rfl
theorem spec_raCommon_eq (a b : Int) (h : 0 ≤ a) (h2 : 0 ≤ b) : spec_raCommon a b = some ((Int.gcd a b : Nat) : Int) := by
 obtain ⟨m, rfl⟩ := Int.eq_ofNat_of_zero_le h
 obtain ⟨n, rfl⟩ := Int.eq_ofNat_of_zero_le h2
 simp only [spec_raCommon]
 rw [spec_gcd_loop]
 rfl
def isRat (r : Int × Int) : Bool := inB 1 1000000000 r.2 && (inB (-1000000000) 1000000000 r.1 && (Int.gcd r.1 r.2 : Int) == 1)
theorem isRat_iff {r : Int × Int} : isRat r = true ↔ 1 ≤ r.2 ∧ r.2 ≤ 1000000000 ∧ -1000000000 ≤ r.1 ∧ r.1 ≤ 1000000000 ∧ Int.gcd r.1 r.2 = 1 := by
 simp only [isRat, Bool.and_eq_true, inB_iff, beq_iff_eq]
 constructor
 ·rintro ⟨⟨h1, h2⟩, ⟨h3, h4⟩, h5⟩; exact ⟨h1, h2, h3, h4, by omega⟩
 ·rintro ⟨h1, h2, h3, h4, h5⟩; exact ⟨⟨h1, h2⟩, ⟨h3, h4⟩, by omega⟩
theorem impl_isRat_eq (r : Int × Int) : impl_isRat r = some (isRat r) := by
 unfold impl_isRat isRat
 simp only [impl_within_eq, Option.bind_some]
 cases h1 : inB 1 1000000000 r.2
 ·rfl
 ·cases h2 : inB (-1000000000) 1000000000 r.1
  ·rfl
  ·have h1' := inB_iff.1 h1
   have h2' := inB_iff.1 h2
   simp only [if_true, impl_greatestDivisor_eq r.1 r.2 (by omega) (by omega) (by omega) (by omega), Option.bind_some, Bool.true_and]
theorem spec_raGood_eq (r : Int × Int) : spec_raGood r = some (isRat r) := by
 unfold spec_raGood isRat
 simp only [spec_l1In_eq, Option.bind_some]
 cases h1 : inB 1 1000000000 r.2
 ·rfl
 ·cases h2 : inB (-1000000000) 1000000000 r.1
  ·rfl
  ·have h1' := inB_iff.1 h1
   have h2' := inB_iff.1 h2
   simp only [if_true, spec_l1Abs_eq r.1 (by omega) (by omega), spec_raCommon_eq _ r.2 (Int.natCast_nonneg _) (by omega), Option.bind_some, Bool.true_and]
   rfl
def lowest (n d : Int) : (Int × Int) × Bool :=
 let g := if d < 0 then -(Int.gcd n d : Int) else Int.gcd n d
 if isRat (Int.tdiv n g, Int.tdiv d g) then ((Int.tdiv n g, Int.tdiv d g), true) else ((0, 0), false)
theorem mul_le_9 {a b : Int} (ha : -1000000000 ≤ a) (ha2 : a ≤ 1000000000) (hb : -1000000000 ≤ b) (hb2 : b ≤ 1000000000) : -1000000000000000000 ≤ a * b ∧ a * b ≤ 1000000000000000000 := by
 have h1 : (a * b).natAbs ≤ 1000000000 * 1000000000 := by
  rw [Int.natAbs_mul]; exact Nat.mul_le_mul (by omega) (by omega)
 omega
def near (r : Int × Int) : Bool := isRat r && inB (-1000 * r.2) (1000 * r.2) r.1
def cmp (a b : Int × Int) : Int := if a.1 * b.2 < b.1 * a.2 then -1 else if a.1 * b.2 > b.1 * a.2 then 1 else 0
def tame (r : Int × Int) : Prop := -1000000000 ≤ r.1 ∧ r.1 ≤ 1000000000 ∧ -1000000000 ≤ r.2 ∧ r.2 ≤ 1000000000
theorem tame_of {r : Int × Int} (h : isRat r = true) : tame r := by
 obtain ⟨h1, h2, h3, h4, _⟩ := isRat_iff.1 h
 exact ⟨h3, h4, by omega, h2⟩
theorem impl_compare_eq (a b : Int × Int) (ha : tame a) (hb : tame b) : impl_compare a b = some (cmp a b) := by
 obtain ⟨a1, a2, a3, a4⟩ := ha
 obtain ⟨b1, b2, b3, b4⟩ := hb
 have m1 := mul_le_9 a1 a2 b3 b4
 have m2 := mul_le_9 b1 b2 a3 a4
 unfold impl_compare cmp
 rw [w64_id (n := a.1 * b.2) (by omega) (by omega), w64_id (n := b.1 * a.2) (by omega) (by omega)]
 by_cases h1 : a.1 * b.2 < b.1 * a.2
 ·simp [h1]
 ·by_cases h2 : a.1 * b.2 > b.1 * a.2
  ·simp [h1, h2]
  ·simp [h1, h2]
def less (a b : Int × Int) : Bool := decide (a.1 * b.2 < b.1 * a.2)
theorem impl_less_eq (a b : Int × Int) (ha : tame a) (hb : tame b) : impl_less a b = some (less a b) := by
 unfold impl_less less
 rw [impl_compare_eq a b ha hb]
 unfold cmp
 by_cases h1 : a.1 * b.2 < b.1 * a.2
 ·simp [h1]
 ·by_cases h2 : a.1 * b.2 > b.1 * a.2
  ·simp [h1, h2]
  ·simp [h1, h2]
def floorDiv (n d : Int) : Int := if Int.tmod n d < 0 then Int.tdiv n d - 1 else Int.tdiv n d
theorem tdiv_bound (n d : Int) : (Int.tdiv n d).natAbs ≤ n.natAbs := by rw [Int.natAbs_tdiv]; exact Nat.div_le_self _ _
def reduceRat (r : Int × Int) : (Int × Int) × Bool := if near r then ((r.1 - floorDiv r.1 r.2 * r.2, r.2), true) else ((0, 0), false)
theorem laws_eqRat_self (r : Int × Int) : laws_eqRat r r = some true := by simp [laws_eqRat]
end Go.PV

set_option linter.all false
namespace Go.PV
abbrev Pt := (Int × Int) × (Int × Int)
def zP : Pt := ((0, 0), (0, 0))
theorem slices_IndexFunc_Limpl_Point_impl_Point_eq (xs : List Pt) (f : Pt → Option Bool) (p : Pt → Bool) (hf : ∀ x, f x = some (p x)) (hl : xs.length ≤ 4611686018427387904) :
  slices_IndexFunc_Limpl_Point_impl_Point xs f = some (match xs.findIdx? p with | some i => (i : Int) | none => -1) := by
 have h := loop_first (xs := xs) (body := slices_IndexFunc_Limpl_Point_impl_Point_b1 xs f) p (fun i => (i : Int)) (fun i => .inl (i : Int)) (.inr ()) (fun i x hx => by
  have hi := getElem?_lt hx
  simp only [slices_IndexFunc_Limpl_Point_impl_Point_b1, idxO_nat, hx, hf, Option.bind_some, w64_nat (show i < 9223372036854775807 by omega), show ((i : Int) < (xs.length : Int)) from by omega, decide_true, if_true]
  cases p x <;> rfl) (by simp [slices_IndexFunc_Limpl_Point_impl_Point_b1])
 unfold slices_IndexFunc_Limpl_Point_impl_Point
 rw [show (0 : Int) = ((0 : Nat) : Int) from rfl, h]
 cases xs.findIdx? p <;> rfl
theorem slices_ContainsFunc_Limpl_Point_impl_Point_eq (xs : List Pt) (f : Pt → Option Bool) (p : Pt → Bool) (hf : ∀ x, f x = some (p x)) (hl : xs.length ≤ 4611686018427387904) : slices_ContainsFunc_Limpl_Point_impl_Point xs f = some (xs.any p) := by
 simp only [slices_ContainsFunc_Limpl_Point_impl_Point, slices_IndexFunc_Limpl_Point_impl_Point_eq xs f p hf hl, Option.bind_some]
 cases h : xs.findIdx? p with
 | none =>
  have hn := List.findIdx?_eq_none_iff.1 h
  have : xs.any p = false := by simpa using hn
  simp [this]
 | some m =>
  obtain ⟨hm, hp, _⟩ := List.findIdx?_eq_some_iff_getElem.1 h
  have : xs.any p = true := List.any_eq_true.2 ⟨xs[m], List.getElem_mem hm, hp⟩
  simp [this]
theorem laws_eqPoint_self (p : Pt) : laws_eqPoint p p = some true := by simp [laws_eqPoint, laws_eqRat_self]
theorem laws_eqPointS_self (xs : List Pt) (hl : xs.length ≤ 4611686018427387904) : laws_eqPointS xs xs = some true := by
 have h := loop_idx (body := laws_eqPointS_b1 xs xs) xs.length (fun i => (i : Int)) (.inr ()) (fun i hi => by
  simp only [laws_eqPointS_b1, idxO_lt hi, laws_eqPoint_self, Option.bind_some, w64_nat (show i < 9223372036854775807 by omega), show ((i : Int) < (xs.length : Int)) from by omega, decide_true, if_true]
  simp) (by simp [laws_eqPointS_b1])
 unfold laws_eqPointS
 rw [show (0 : Int) = ((0 : Nat) : Int) from rfl, h]
 simp [laws_eqPointS_k1]
theorem spec_raCmp_eq (a b : Int × Int) (ha : tame a) (hb : tame b) : spec_raCmp a b = some (cmp a b) := by
 obtain ⟨a1, a2, a3, a4⟩ := ha
 obtain ⟨b1, b2, b3, b4⟩ := hb
 have m1 := mul_le_9 a1 a2 b3 b4
 have m2 := mul_le_9 b1 b2 a3 a4
 unfold spec_raCmp spec_l1Sign cmp
 rw [w64_id (n := a.1 * b.2) (by omega) (by omega), w64_id (n := b.1 * a.2) (by omega) (by omega), w64_id (n := a.1 * b.2 - b.1 * a.2) (by omega) (by omega)]
 by_cases h1 : a.1 * b.2 < b.1 * a.2
 ·have : ¬ (a.1 * b.2 - b.1 * a.2 > 0) := by omega
  have h3 : a.1 * b.2 - b.1 * a.2 < 0 := by omega
  simp [h1, h3]; omega
 ·by_cases h2 : a.1 * b.2 > b.1 * a.2
  ·have : a.1 * b.2 - b.1 * a.2 > 0 := by omega
   simp [h1, h2, this]
  ·have h3 : ¬ (a.1 * b.2 - b.1 * a.2 > 0) := by omega
   have h4 : ¬ (a.1 * b.2 - b.1 * a.2 < 0) := by omega
   simp [h1, h2, h3, h4]
theorem cmp_ge (a b : Int × Int) : decide (cmp a b ≥ 0) = !less a b := by
 unfold cmp less
 by_cases h1 : a.1 * b.2 < b.1 * a.2
 ·simp [h1]
 ·by_cases h2 : a.1 * b.2 > b.1 * a.2 <;> simp [h1, h2]
theorem cmp_gt (a b : Int × Int) : decide (cmp a b > 0) = less b a := by
 unfold cmp less
 by_cases h1 : a.1 * b.2 < b.1 * a.2
 ·have : ¬ b.1 * a.2 < a.1 * b.2 := by omega
  simp [h1, this]
 ·by_cases h2 : a.1 * b.2 > b.1 * a.2
  ·simp [h1, h2]
  ·have : ¬ b.1 * a.2 < a.1 * b.2 := by omega
   simp [h1, h2]
theorem cmp_zero (a b : Int × Int) : (cmp a b == 0) = (a.1 * b.2 == b.1 * a.2) := by
 unfold cmp
 by_cases h1 : a.1 * b.2 < b.1 * a.2
 ·have : ¬ a.1 * b.2 = b.1 * a.2 := by omega
  simp [h1, this]
 ·by_cases h2 : a.1 * b.2 > b.1 * a.2
  ·have : ¬ a.1 * b.2 = b.1 * a.2 := by omega
   simp [h1, h2, this]
  ·have : a.1 * b.2 = b.1 * a.2 := by omega
   simp [this]
def isUnit (r : Int × Int) : Bool := isRat r && inB 0 r.2 r.1
def coord (r : Int × Int) : Bool := isUnit r && decide (r.2 ≤ 100)
theorem spec_raUnit_eq (r : Int × Int) : spec_raUnit r = some (isUnit r) := by
 unfold spec_raUnit isUnit
 simp only [spec_raGood_eq, Option.bind_some, spec_l1In_eq]
 cases isRat r <;> simp
theorem impl_isUnit_eq (r : Int × Int) : impl_isUnit r = some (isUnit r) := by
 simp [impl_isUnit, impl_isRat_eq, isUnit, inB]
theorem spec_imCoord_eq (r : Int × Int) : spec_imCoord r = some (coord r) := by simp [spec_imCoord, spec_raUnit_eq, coord]
theorem impl_isCoord_eq (r : Int × Int) : impl_isCoord r = some (coord r) := by simp [impl_isCoord, impl_isUnit_eq, coord]
theorem coord_rat {r : Int × Int} (h : coord r = true) : isRat r = true := by
 simp only [coord, isUnit, Bool.and_eq_true] at h
 exact h.1.1
def goodPt (p : Pt) : Bool := coord p.1 && (isRat p.2 && (decide (p.2.2 ≤ 100) && inB (-5 * p.2.2) (5 * p.2.2) p.2.1))
theorem goodPt_tame {p : Pt} (h : goodPt p = true) : isRat p.1 = true ∧ isRat p.2 = true := by
 simp only [goodPt, Bool.and_eq_true] at h
 exact ⟨coord_rat h.1, h.2.1⟩
theorem impl_isLift_1_eq (p : Pt) : impl_isLift_1 p = some (!goodPt p) := by
 unfold impl_isLift_1 goodPt
 simp only [impl_isCoord_eq, impl_isRat_eq, impl_whole, Option.bind_some]
 cases h1 : coord p.1
 ·simp
 ·cases h : isRat p.2
  ·simp
  ·have ht := tame_of h
   obtain ⟨h2, h3, h4, h5, _⟩ := isRat_iff.1 h
   by_cases h6 : p.2.2 > 100
   ·have : ¬ p.2.2 ≤ 100 := by omega
    simp [h6, this]
   ·have h7 : p.2.2 ≤ 100 := by omega
    simp only [Bool.not_true, Bool.false_eq_true, if_false, h6, h7, decide_false, decide_true, impl_less_eq p.2 (-5, 1) ht ⟨by decide, by decide, by decide, by decide⟩, impl_less_eq (5, 1) p.2 ⟨by decide, by decide, by decide, by decide⟩ ht, Option.bind_some, less, Bool.true_and, inB]
    simp only [Int.mul_one]
    by_cases h8 : p.2.1 < -5 * p.2.2
    ·have : ¬ (-5 * p.2.2 ≤ p.2.1) := by omega
     simp [h8, this]
    ·have h9 : -5 * p.2.2 ≤ p.2.1 := by omega
     by_cases h10 : 5 * p.2.2 < p.2.1
     ·have : ¬ (p.2.1 ≤ 5 * p.2.2) := by omega
      simp [h8, h9, h10, this]
     ·have h11 : p.2.1 ≤ 5 * p.2.2 := by omega
      simp [h8, h9, h10, h11]
def stepPt (a b : Pt) : Bool := less a.1 b.1 && !less b.2 a.2
def steps (xs : List Pt) (n : Nat) : Prop := ∀ i a b, 0 < i → i < n → xs[i - 1]? = some a → xs[i]? = some b → stepPt a b = true
theorem steps_succ {xs : List Pt} {i : Nat} {a b : Pt} (h : steps xs i) (ha : xs[i - 1]? = some a) (hb : xs[i]? = some b) (hs : stepPt a b = true) : steps xs (i + 1) := by
 intro j c d h1 h2 h3 h4
 by_cases hj : j = i
 ·subst hj; rw [ha] at h3; rw [hb] at h4; cases h3; cases h4; exact hs
 ·exact h j c d h1 (by omega) h3 h4
def ends (xs : List Pt) : Bool := match xs[0]?, xs[xs.length - 1]? with
 | some a, some b => (a.1 == (0, 1)) && ((b.1 == (1, 1)) && (b.2 == (a.2.1 + a.2.2, a.2.2)))
 | _, _ => false
open Classical in
noncomputable def isLift (xs : List Pt) : Bool := inB 2 12 xs.length && (decide (xs.all goodPt = true ∧ steps xs xs.length) && ends xs)
end Go.PV

/-
 Plain laws: numerals.
 Conditions: none.
-/
set_option linter.all false
namespace Go.PV
def decB (n : Nat) : ByteArray := ⟨(Lib.decDigits n).toArray⟩
theorem ba_app (a b : List UInt8) : (ByteArray.mk a.toArray) ++ (ByteArray.mk b.toArray) = ByteArray.mk (a ++ b).toArray := by
 apply ByteArray.ext
 rw [ByteArray.data_append]
 simp
theorem ba_size (a : List UInt8) : (ByteArray.mk a.toArray).size = a.length := by simp [ByteArray.size]
theorem dec_len (n : Nat) : (Lib.decDigits n).length ≤ n + 1 := by
 induction n using Nat.strongRecOn with
 | ind n ih =>
  unfold Lib.decDigits
  split
  ·simp
  ·rename_i h
   have := ih (n / 10) (by omega)
   simp only [List.length_append, List.length_singleton]
   omega
theorem byteB_digit {d : Nat} (hd : d < 10) : byteB (IntKind.wrap .u8 (w64 (48 + (d : Int)))) = ByteArray.mk [UInt8.ofNat (48 + d)].toArray := by
 have h : IntKind.wrap .u8 (w64 (48 + (d : Int))) = ((48 + d : Nat) : Int) := by
  rw [w64_id (by omega) (by omega)]
  simp [IntKind.wrap, IntKind.bits, IntKind.signed]
  omega
 rw [h]; rfl
theorem l1Num_step {rc : Int → Option ByteArray} {n : Nat} (hn : n ≤ 1000000000) (h : 10 ≤ n → rc ((n / 10 : Nat) : Int) = some (decB (n / 10))) : spec_l1Num_r rc (n : Int) = some (decB n) := by
 unfold spec_l1Num_r
 by_cases h1 : n < 10
 ·rw [if_pos (decide_eq_true (by omega)), byteB_digit h1]
  unfold decB Lib.decDigits
  rw [dif_pos h1]
 ·rw [if_neg (by simp; omega)]
  have e1 : Int.tdiv (n : Int) 10 = ((n / 10 : Nat) : Int) := by rw [Int.tdiv_eq_ediv_of_nonneg (by omega)]; omega
  have e2 : Int.tmod (n : Int) 10 = ((n % 10 : Nat) : Int) := by rw [Int.tmod_eq_emod_of_nonneg (by omega)]; omega
  have hd : n % 10 < 10 := Nat.mod_lt _ (by omega)
  have hl := dec_len (n / 10)
  rw [e1, e2, w64_id (n := ((n / 10 : Nat) : Int)) (by omega) (by omega), h (by omega), Option.bind_some, byteB_digit hd]
  have hs : (decB (n / 10)).size + (ByteArray.mk [UInt8.ofNat (48 + n % 10)].toArray).size ≤ 1099511627776 := by
   unfold decB; rw [ba_size, ba_size]; simp only [List.length_singleton]; omega
  rw [guardO_bind_pos hs]
  unfold decB
  rw [ba_app]
  conv => rhs; unfold Lib.decDigits
  rw [dif_neg h1]
theorem l1Num_all : ∀ (k n : Nat), n ≤ 1000000000 → n < k → spec_l1Num_f k (n : Int) = some (decB n)
 | 0, n, _, h => by omega
 | k + 1, n, hn, h => l1Num_step hn fun h10 => l1Num_all k (n / 10) (by omega) (by omega)
theorem l1Num_some : ∀ (k n : Nat) (r : ByteArray), n ≤ 1000000000 → spec_l1Num_f k (n : Int) = some r → r = decB n
 | 0, n, r, _, h => by cases h
 | k + 1, n, r, hn, h => by
  by_cases h10 : 10 ≤ n
  ·have h' : spec_l1Num_r (spec_l1Num_f k) (n : Int) = some r := h
   cases hq : spec_l1Num_f k ((n / 10 : Nat) : Int) with
   | none =>
    unfold spec_l1Num_r at h'
    have e1 : Int.tdiv (n : Int) 10 = ((n / 10 : Nat) : Int) := by rw [Int.tdiv_eq_ediv_of_nonneg (by omega)]; omega
    rw [if_neg (by simp; omega), e1, w64_id (n := ((n / 10 : Nat) : Int)) (by omega) (by omega), hq] at h'
    cases h'
   | some r' =>
    have := l1Num_some k (n / 10) r' (by omega) hq
    subst this
    have := l1Num_step (rc := spec_l1Num_f k) hn fun _ => hq
    rw [this] at h'
    exact (Option.some.inj h').symm
  ·have := l1Num_step (rc := spec_l1Num_f k) hn fun h => absurd h h10
   have h' : spec_l1Num_r (spec_l1Num_f k) (n : Int) = some r := h
   rw [this] at h'
   exact (Option.some.inj h').symm
theorem spec_l1Num_eq {n : Nat} (hn : n ≤ 1000000000) : spec_l1Num (n : Int) = some (decB n) := by
 unfold spec_l1Num
 exact fuelO_eq (n + 1) (l1Num_all (n + 1) n hn (by omega)) fun k r h => l1Num_some k n r hn h
theorem itoaB_size {n : Int} (h1 : -1000000000 ≤ n) (h2 : n ≤ 1000000000) : (itoaB n).size ≤ 1000000002 := by
 unfold itoaB Lib.itoa
 rw [ba_size]
 split
 ·have := dec_len n.natAbs; simp only [List.length_cons]; omega
 ·have := dec_len n.toNat; omega
theorem spec_l1Int_eq {n : Int} (h1 : -1000000000 ≤ n) (h2 : n ≤ 1000000000) : spec_l1Int n = some (itoaB n) := by
 unfold spec_l1Int
 by_cases h : n < 0
 ·obtain ⟨m, rfl⟩ : ∃ m : Nat, n = -(m : Int) := ⟨n.natAbs, by omega⟩
  have e : w64 (0 - -(m : Int)) = (m : Int) := by rw [w64_id (by omega) (by omega)]; omega
  rw [if_pos (decide_eq_true h), e, spec_l1Num_eq (by omega), Option.bind_some]
  have hl := dec_len m
  have hs : (ByteArray.mk #[45]).size + (decB m).size ≤ 1099511627776 := by
   unfold decB; rw [show (ByteArray.mk #[45]).size = 1 from rfl, ba_size]; omega
  rw [guardO_bind_pos hs]
  unfold itoaB Lib.itoa decB
  rw [if_pos h, show (ByteArray.mk #[45]) = ByteArray.mk [45].toArray from rfl, ba_app, show (-(m : Int)).natAbs = m by omega]
  rfl
 ·obtain ⟨m, rfl⟩ := Int.eq_ofNat_of_zero_le (show 0 ≤ n by omega)
  rw [if_neg (by simpa using h), spec_l1Num_eq (by omega), Option.bind_some]
  unfold itoaB Lib.itoa decB
  rw [if_neg h, Int.toNat_natCast]
theorem strconv_Itoa_eq {n : Int} (h1 : -1000000000 ≤ n) (h2 : n ≤ 1000000000) : strconv_Itoa n = some (itoaB n) := by
 unfold strconv_Itoa
 rw [guardO_bind_pos ⟨by omega, by omega⟩]
def ratB (r : Int × Int) : ByteArray := itoaB r.1 ++ ByteArray.mk #[47] ++ itoaB r.2
theorem both_ratText {r : Int × Int} (h : isRat r = true) : spec_raText r = some (ratB r) ∧ impl_ratText r = some (ratB r) ∧ (ratB r).size ≤ 3000000000 := by
 obtain ⟨r1, r2, r3, r4, _⟩ := isRat_iff.1 h
 have a := itoaB_size (n := r.1) (by omega) (by omega)
 have b := itoaB_size (n := r.2) (by omega) (by omega)
 have c : (ByteArray.mk #[47]).size = 1 := rfl
 have g1 : (itoaB r.1).size + (ByteArray.mk #[47]).size ≤ 1099511627776 := by omega
 have g2 : (itoaB r.1 ++ ByteArray.mk #[47]).size + (itoaB r.2).size ≤ 1099511627776 := by rw [ByteArray.size_append]; omega
 have hnum : spec_l1Num r.2 = some (itoaB r.2) := by
  obtain ⟨m, hm⟩ := Int.eq_ofNat_of_zero_le (show 0 ≤ r.2 by omega)
  rw [hm, spec_l1Num_eq (by omega)]
  unfold itoaB Lib.itoa decB
  rw [if_neg (by omega), Int.toNat_natCast]
 refine ⟨?_, ?_, ?_⟩
 ·unfold spec_raText
  rw [spec_l1Int_eq (by omega) (by omega), Option.bind_some, guardO_bind_pos g1, hnum, Option.bind_some, guardO_bind_pos g2]
  rfl
 ·unfold impl_ratText
  rw [strconv_Itoa_eq (by omega) (by omega), Option.bind_some, guardO_bind_pos g1, strconv_Itoa_eq (by omega) (by omega), Option.bind_some, guardO_bind_pos g2]
  rfl
 ·unfold ratB
  rw [ByteArray.size_append, ByteArray.size_append]; omega
end Go.PV

/-
 Plain laws: lists and tables by their places.
 Conditions: none.
-/
namespace Go.PV
section
variable {α β : Type}
def tab (n : Nat) (f : Nat → α) : List α := (List.range n).map f
theorem tab_len (n : Nat) (f : Nat → α) : (tab n f).length = n := by simp [tab]
theorem tab_get {n i : Nat} {f : Nat → α} (h : i < n) : (tab n f)[i]? = some (f i) := by simp [tab, h]
theorem tab_get_none {n i : Nat} {f : Nat → α} (h : n ≤ i) : (tab n f)[i]? = none := by simp [tab, h]
theorem idxO_tab {n i : Nat} {f : Nat → α} (h : i < n) : idxO (tab n f) (i : Int) = some (f i) := by rw [idxO_nat, tab_get h]
theorem tab_eta [Inhabited α] (xs : List α) : xs = tab xs.length (fun i => xs.getD i default) := by
 apply List.ext_getElem?
 intro j
 by_cases hj : j < xs.length
 ·rw [tab_get hj]; simp [hj]
 ·rw [tab_get_none (by omega)]; simp; omega
theorem tab_mem {n : Nat} {f : Nat → α} {x : α} : x ∈ tab n f ↔ ∃ i, i < n ∧ f i = x := by simp [tab]
def mat (n m : Nat) (f : Nat → Nat → α) : List (List α) := tab n fun i => tab m (f i)
def foldN (n : Nat) (g : β → Nat → β) (s : β) : β := (List.range n).foldl g s
end
end Go.PV

/-
 Plain laws: graphs, numbers of walks.
 Conditions: none.
-/
namespace Go.PV
def sized (g : List (List Int)) : Prop := g.length ≤ 1048576 ∧ ∀ row ∈ g, row.length ≤ 1048576
def isGraph (g : List (List Int)) : Bool := inB 1 8 g.length && g.all fun row => (row.length : Int) == g.length && row.all (inB 0 9)
end Go.PV

/-
 Plain laws: powers of graphs' tables, numbers of all walks.
 Conditions: none.
-/
namespace Go.PV
def capMul (most acc w a : Int) : Int := if most < w64 (acc + w64 (w * a)) then most else w64 (acc + w64 (w * a))
def powStep (n : Nat) (G : Nat → Nat → Int) (most : Int) (F : Nat → Nat → Int) : Nat → Nat → Int := fun i j => foldN n (fun acc k => capMul most acc (F i k) (G k j)) 0
def idM : Nat → Nat → Int := fun i j => if i = j then 1 else 0
def powN (n : Nat) (G : Nat → Nat → Int) (most : Int) : Nat → Nat → Nat → Int
 | 0 => idM
 | m + 1 => powStep n G most (powN n G most m)
section impl
variable {n : Nat} {G : Nat → Nat → Int} {most : Int}
end impl
section spec
variable {n : Nat} {G : Nat → Nat → Int}
end spec
def capAt (x : Int) : Int := if 1000000001 < x then 1000000001 else x
def total (g : List (List Int)) : Int := (g.map List.sum).sum
def totalWalks (g : List (List Int)) (m : Int) : Int × Bool :=
 if isGraph g && inB 0 12 m then
  let t := total (mat g.length g.length (powN g.length (fun i j => (g.getD i []).getD j 0) 1000000001 m.toNat))
  if t > 1000000000 then (0, false) else (t, true)
 else (0, false)
end Go.PV

set_option linter.all false
namespace Go.PV
theorem lowest_isRat {n d : Int} (h1 : 0 ≤ n) (h2 : n ≤ 1000000000) (h3 : 1 ≤ d) (h4 : d ≤ 1000000000) : isRat (lowest n d).1 = true := by
 have hg : 0 < Int.gcd n d := Int.gcd_pos_of_ne_zero_right _ (by omega)
 have key : isRat (Int.tdiv n (Int.gcd n d : Int), Int.tdiv d (Int.gcd n d : Int)) = true := by
  obtain ⟨a, rfl⟩ := Int.eq_ofNat_of_zero_le h1
  obtain ⟨b, rfl⟩ := Int.eq_ofNat_of_zero_le (show 0 ≤ d by omega)
  have e : Int.gcd (a : Int) (b : Int) = Nat.gcd a b := rfl
  rw [e] at hg ⊢
  have e1 : Int.tdiv (a : Int) ((Nat.gcd a b : Nat) : Int) = ((a / Nat.gcd a b : Nat) : Int) := by rw [Int.tdiv_eq_ediv_of_nonneg (by omega)]; rfl
  have e2 : Int.tdiv (b : Int) ((Nat.gcd a b : Nat) : Int) = ((b / Nat.gcd a b : Nat) : Int) := by rw [Int.tdiv_eq_ediv_of_nonneg (by omega)]; rfl
  rw [e1, e2, isRat_iff]
  have l1 : a / Nat.gcd a b ≤ a := Nat.div_le_self _ _
  have l2 : b / Nat.gcd a b ≤ b := Nat.div_le_self _ _
  have l3 : 0 < b / Nat.gcd a b := Nat.div_pos (Nat.le_of_dvd (by omega) (Nat.gcd_dvd_right a b)) hg
  have l4 : ((a / Nat.gcd a b : Nat) : Int) ≤ 1000000000 := by omega
  have l5 : ((b / Nat.gcd a b : Nat) : Int) ≤ 1000000000 := by omega
  have l6 : 1 ≤ ((b / Nat.gcd a b : Nat) : Int) := by omega
  have l7 : 0 ≤ ((a / Nat.gcd a b : Nat) : Int) := Int.natCast_nonneg _
  generalize hA : ((a / Nat.gcd a b : Nat) : Int) = A at l4 l7 ⊢
  generalize hB : ((b / Nat.gcd a b : Nat) : Int) = B at l5 l6 ⊢
  refine ⟨l6, l5, by show -1000000000 ≤ A; omega, l4, ?_⟩
  rw [← hA, ← hB]
  exact Nat.coprime_div_gcd_div_gcd hg
 have hdn : ¬ d < 0 := by omega
 unfold lowest
 simp only [if_neg hdn]
 rw [if_pos key]
 exact key
def dotN (G : Nat → Int) (v : Nat → Int) (n : Nat) : Int := foldN n (fun s j => s + G j * v j) 0
end Go.PV

/-
 Plain laws: sums, products and quotients of fractions, with what is too large told.
 Conditions: none.
-/
set_option linter.all false
namespace Go.PV
abbrev Rt := Int × Int
def unO : Option Rt → Rt × Bool
 | some r => (r, true)
 | none => ((0, 0), false)
def lowQ (n d : Int) : Option Rt := if (lowest n d).2 = true then some (lowest n d).1 else none
def addQ (a b : Rt) : Option Rt := lowQ (a.1 * b.2 + b.1 * a.2) (a.2 * b.2)
def subQ (a b : Rt) : Option Rt := lowQ (a.1 * b.2 - b.1 * a.2) (a.2 * b.2)
def mulQ (a b : Rt) : Option Rt := lowQ (a.1 * b.1) (a.2 * b.2)
def divQ (a b : Rt) : Option Rt := if b.1 = 0 then none else lowQ (a.1 * b.2) (a.2 * b.1)
structure RB (a b : Rt) : Prop where
 m1 : -1000000000000000000 ≤ a.1 * b.2 ∧ a.1 * b.2 ≤ 1000000000000000000
 m2 : -1000000000000000000 ≤ b.1 * a.2 ∧ b.1 * a.2 ≤ 1000000000000000000
 m3 : -1000000000000000000 ≤ a.2 * b.2 ∧ a.2 * b.2 ≤ 1000000000000000000
 m4 : -1000000000000000000 ≤ a.1 * b.1 ∧ a.1 * b.1 ≤ 1000000000000000000
 ne : a.2 * b.2 ≠ 0
 m5 : -1000000000000000000 ≤ a.2 * b.1 ∧ a.2 * b.1 ≤ 1000000000000000000
theorem rb {a b : Rt} (ha : isRat a = true) (hb : isRat b = true) : RB a b := by
 obtain ⟨a1, a2, a3, a4, _⟩ := isRat_iff.1 ha
 obtain ⟨b1, b2, b3, b4, _⟩ := isRat_iff.1 hb
 exact ⟨mul_le_9 a3 a4 (by omega) b2, mul_le_9 b3 b4 (by omega) a2, mul_le_9 (by omega) a2 (by omega) b2, mul_le_9 a3 a4 b3 b4, Int.mul_ne_zero (by omega) (by omega), mul_le_9 (by omega) a2 b3 b4⟩
section spec
variable {a b : Rt} (ha : isRat a = true) (hb : isRat b = true)
include ha hb
end spec
def cK (bad : Bool) : Option Rt → Rt × Bool
 | some r => (r, bad)
 | none => ((0, 1), true)
theorem isRat_neg {a : Rt} (h : isRat a = true) : isRat (0 - a.1, a.2) = true := by
 obtain ⟨h1, h2, h3, h4, h5⟩ := isRat_iff.1 h
 refine isRat_iff.2 ⟨h1, h2, by show -1000000000 ≤ 0 - a.1; omega, by show 0 - a.1 ≤ _; omega, ?_⟩
 show Int.gcd (0 - a.1) a.2 = 1
 rw [Int.zero_sub, Int.neg_gcd]; exact h5
section impl
variable {a b : Rt} (bad : Bool) (ha : isRat a = true) (hb : isRat b = true)
include ha hb
end impl
def absR (r : Rt) : Rt := ((r.1.natAbs : Int), r.2)
def distQ (a b : Rt) : Option Rt := if less a b then subQ b a else subQ a b
theorem lowQ_neg {n d : Int} (hd : 0 < d) : lowQ (-n) d = (lowQ n d).map fun r => (-r.1, r.2) := by
 have hn : ¬ d < 0 := by omega
 have e : isRat (Int.tdiv (-n) (Int.gcd n d : Int), Int.tdiv d (Int.gcd n d : Int)) = isRat (Int.tdiv n (Int.gcd n d : Int), Int.tdiv d (Int.gcd n d : Int)) := by
  rw [Int.neg_tdiv]
  cases h : isRat (Int.tdiv n (Int.gcd n d : Int), Int.tdiv d (Int.gcd n d : Int))
  ·cases h2 : isRat (-Int.tdiv n (Int.gcd n d : Int), Int.tdiv d (Int.gcd n d : Int))
   ·rfl
   ·have := isRat_neg h2
    simp only [Int.zero_sub, Int.neg_neg] at this
    rw [h] at this; cases this
  ·have := isRat_neg h
   simp only [Int.zero_sub] at this
   exact this
 unfold lowQ lowest
 simp only [Int.neg_gcd, if_neg hn, e]
 cases isRat (Int.tdiv n (Int.gcd n d : Int), Int.tdiv d (Int.gcd n d : Int))
 ·rfl
 ·simp [Int.neg_tdiv]
end Go.PV

set_option linter.all false
namespace Go.PV
theorem spec_bad_eq {α : Type} (p : Pt) (f : Bool → Option α) : ((spec_imCoord p.1).bind fun v16 =>
  (if (!v16) = true then
    some true
   else
    (spec_raGood p.2).bind fun v17 =>
    if (!v17) = true then
     some true
    else
     if (decide (p.2.2 > 100)) = true then
      some true
     else
      (spec_l1In p.2.1 (w64 ((-5) * p.2.2)) (w64 (5 * p.2.2))).bind fun v18 =>
      some (!v18)).bind f) = f (!goodPt p) := by
 unfold goodPt
 simp only [spec_imCoord_eq, spec_raGood_eq, Option.bind_some]
 cases h1 : coord p.1
 ·simp
 ·cases h : isRat p.2
  ·simp
  ·obtain ⟨h2, h3, h4, h5, _⟩ := isRat_iff.1 h
   by_cases h6 : p.2.2 > 100
   ·have : ¬ p.2.2 ≤ 100 := by omega
    simp [h6, this]
   ·have h7 : p.2.2 ≤ 100 := by omega
    rw [w64_id (by omega) (by omega), w64_id (by omega) (by omega)]
    simp [h6, h7, spec_l1In_eq]
theorem spec_liGood_loop (xs : List Pt) (hl : xs.length ≤ 4611686018427387904) :
  ∃ y, loopO (spec_liGood_b1 xs) 0 = some y ∧ ((y = .inl false ∧ ¬ (xs.all goodPt = true ∧ steps xs xs.length)) ∨ (y = .inr () ∧ xs.all goodPt = true ∧ steps xs xs.length)) := by
 refine loop_run (fun x => ∃ i : Nat, x = (i : Int) ∧ i ≤ xs.length ∧ (∀ j p, j < i → xs[j]? = some p → goodPt p = true) ∧ steps xs i) (fun x => xs.length - x.toNat) (fun (y : Bool ⊕ Unit) => (y = .inl false ∧ ¬ (xs.all goodPt = true ∧ steps xs xs.length)) ∨ (y = .inr () ∧ xs.all goodPt = true ∧ steps xs xs.length)) ?_ 0 ⟨0, rfl, by omega, fun j p h => by omega, fun i a b h1 h2 => by omega⟩
 rintro _ ⟨i, rfl, hi, hg, hs⟩
 by_cases hlt : i < xs.length
 ·have hx := idxO_lt hlt
  obtain ⟨p, hp⟩ : ∃ p, xs[i]? = some p := ⟨xs[i], List.getElem?_eq_getElem hlt⟩
  unfold spec_liGood_b1
  simp only [show ((i : Int) < (xs.length : Int)) from by omega, decide_true, if_true, idxO_nat, hp, Option.bind_some]
  rw [spec_bad_eq]
  cases hgp : goodPt p
  ·refine .inr ⟨.inl false, by simp, .inl ⟨rfl, fun h => ?_⟩⟩
   have := List.all_eq_true.1 h.1 p (List.mem_of_getElem? hp)
   rw [hgp] at this; cases this
  ·simp only [Bool.not_true, Bool.false_eq_true, if_false]
   have hg' : ∀ j q, j < i + 1 → xs[j]? = some q → goodPt q = true := fun j q h1 h2 => by
    by_cases hj : j = i
    ·subst hj; rw [hp] at h2; cases h2; exact hgp
    ·exact hg j q (by omega) h2
   by_cases hi0 : i = 0
   ·subst hi0
    refine .inl ⟨((0 + 1 : Nat) : Int), ?_, ⟨0 + 1, rfl, by omega, hg', fun i a b h1 h2 => by omega⟩, by simp; omega⟩
    simp [w64_nat (show 0 < 9223372036854775807 by omega)]
    rfl
   ·have hpos : ((i : Int) > 0) := by omega
    have hw : w64 ((i : Int) - 1) = ((i - 1 : Nat) : Int) := by rw [w64_id (by omega) (by omega)]; omega
    have hlt2 : i - 1 < xs.length := by omega
    obtain ⟨q, hq⟩ : ∃ q, xs[i - 1]? = some q := ⟨xs[i - 1], List.getElem?_eq_getElem hlt2⟩
    have hgq := hg (i - 1) q (by omega) hq
    obtain ⟨p1, p2⟩ := goodPt_tame hgp
    obtain ⟨q1, q2⟩ := goodPt_tame hgq
    simp only [hpos, decide_true, if_true, hw, idxO_nat, hq, Option.bind_some, spec_raCmp_eq q.1 p.1 (tame_of q1) (tame_of p1), spec_raCmp_eq q.2 p.2 (tame_of q2) (tame_of p2), cmp_ge, cmp_gt]
    by_cases hst : stepPt q p = true
    ·have h5 : less q.1 p.1 = true ∧ less p.2 q.2 = false := by simpa [stepPt] using hst
     refine .inl ⟨((i + 1 : Nat) : Int), ?_, ⟨i + 1, rfl, by omega, hg', steps_succ hs hq hp hst⟩, by simp; omega⟩
     simp [h5.1, h5.2, w64_nat (show i < 9223372036854775807 by omega)]
    ·refine .inr ⟨.inl false, ?_, .inl ⟨rfl, fun h => hst (h.2 i q p (by omega) hlt hq hp)⟩⟩
     cases h6 : less q.1 p.1
     ·simp
     ·cases h7 : less p.2 q.2
      ·simp [stepPt, h6, h7] at hst
      ·simp
 ·have he : i = xs.length := by omega
  subst he
  refine .inr ⟨.inr (), by simp [spec_liGood_b1], .inr ⟨rfl, ?_, hs⟩⟩
  rw [List.all_eq_true]
  intro p hp
  obtain ⟨j, hj, rfl⟩ := List.mem_iff_getElem.1 hp
  exact hg j _ hj (List.getElem?_eq_getElem hj)
theorem impl_isLift_loop (xs : List Pt) (hl : xs.length ≤ 4611686018427387904) (h2 : 1 ≤ xs.length) (hall : xs.all goodPt = true) :
  ∃ y, loopO (impl_isLift_b1 xs) 1 = some y ∧ ((y = .inl false ∧ ¬ steps xs xs.length) ∨ (y = .inr () ∧ steps xs xs.length)) := by
 refine loop_run (fun x => ∃ i : Nat, x = (i : Int) ∧ 1 ≤ i ∧ i ≤ xs.length ∧ steps xs i) (fun x => xs.length - x.toNat) (fun (y : Bool ⊕ Unit) => (y = .inl false ∧ ¬ steps xs xs.length) ∨ (y = .inr () ∧ steps xs xs.length)) ?_ 1 ⟨1, rfl, by omega, by omega, fun i a b h1 h2 => by omega⟩
 rintro _ ⟨i, rfl, hi0, hi, hs⟩
 by_cases hlt : i < xs.length
 ·obtain ⟨p, hp⟩ : ∃ p, xs[i]? = some p := ⟨xs[i], List.getElem?_eq_getElem hlt⟩
  have hgp := List.all_eq_true.1 hall p (List.mem_of_getElem? hp)
  have hw : w64 ((i : Int) - 1) = ((i - 1 : Nat) : Int) := by rw [w64_id (by omega) (by omega)]; omega
  have hlt2 : i - 1 < xs.length := by omega
  obtain ⟨q, hq⟩ : ∃ q, xs[i - 1]? = some q := ⟨xs[i - 1], List.getElem?_eq_getElem hlt2⟩
  have hgq := List.all_eq_true.1 hall q (List.mem_of_getElem? hq)
  obtain ⟨p1, p2⟩ := goodPt_tame hgp
  obtain ⟨q1, q2⟩ := goodPt_tame hgq
  unfold impl_isLift_b1
  simp only [show ((i : Int) < (xs.length : Int)) from by omega, decide_true, if_true, hw, idxO_nat, hp, hq, Option.bind_some, impl_less_eq q.1 p.1 (tame_of q1) (tame_of p1), impl_less_eq p.2 q.2 (tame_of p2) (tame_of q2)]
  by_cases hst : stepPt q p = true
  ·have h5 : less q.1 p.1 = true ∧ less p.2 q.2 = false := by simpa [stepPt] using hst
   refine .inl ⟨((i + 1 : Nat) : Int), ?_, ⟨i + 1, rfl, by omega, by omega, steps_succ hs hq hp hst⟩, by simp; omega⟩
   simp [h5.1, h5.2, w64_nat (show i < 9223372036854775807 by omega)]
  ·refine .inr ⟨.inl false, ?_, .inl ⟨rfl, fun h => hst (h i q p (by omega) hlt hq hp)⟩⟩
   cases h6 : less q.1 p.1
   ·simp
   ·cases h7 : less p.2 q.2
    ·simp [stepPt, h6, h7] at hst
    ·simp
 ·have he : i = xs.length := by omega
  subst he
  exact .inr ⟨.inr (), by simp [impl_isLift_b1], .inr ⟨rfl, hs⟩⟩
theorem zero_iff {r : Int × Int} (h : isRat r = true) : (r.1 * 1 == 0 * r.2) = (r == (0, 1)) := by
 obtain ⟨h1, h2, h3, h4, h5⟩ := isRat_iff.1 h
 obtain ⟨n, d⟩ := r
 simp only [Int.mul_one, Int.zero_mul]
 by_cases hn : n = 0
 ·subst hn
  have h6 : d.natAbs = 1 := by simpa using h5
  have h7 : d = 1 := by omega
  subst h7; rfl
 ·have e1 : (n == 0) = false := by simpa using hn
  have e2 : ((n, d) == ((0, 1) : Int × Int)) = false := by simp [hn]
  rw [e1, e2]
theorem one_iff {r : Int × Int} (h : isRat r = true) : (r.1 * 1 == 1 * r.2) = (r == (1, 1)) := by
 obtain ⟨h1, h2, h3, h4, h5⟩ := isRat_iff.1 h
 obtain ⟨n, d⟩ := r
 simp only [Int.mul_one, Int.one_mul]
 by_cases hn : n = d
 ·subst hn
  have h6 : n.natAbs = 1 := by simpa using h5
  have h7 : n = 1 := by omega
  subst h7; rfl
 ·by_cases h6 : n = 1
  ·subst h6; have : ¬ d = 1 := fun e => hn e.symm
   have e1 : ((1 : Int) == d) = false := by simpa using hn
   have e2 : (((1 : Int), d) == ((1, 1) : Int × Int)) = false := by simp [this]
   rw [e1, e2]
  ·have e1 : (n == d) = false := by simpa using hn
   have e2 : ((n, d) == ((1, 1) : Int × Int)) = false := by simp [h6]
   rw [e1, e2]
theorem pair_beq (a b : Int × Int) : ((a.1 == b.1) && (a.2 == b.2)) = (a == b) := by
 obtain ⟨a1, a2⟩ := a; obtain ⟨b1, b2⟩ := b; rfl
theorem ends_aux (xs : List Pt) (hl : 2 ≤ xs.length) (hm : xs.length ≤ 12) (hall : xs.all goodPt = true) : spec_liGood_k1 xs () = some (ends xs) ∧ impl_isLift_k1 xs () = some (ends xs) := by
 have hlt : 0 < xs.length := by omega
 have hlt2 : xs.length - 1 < xs.length := by omega
 obtain ⟨a, ha⟩ : ∃ a, xs[0]? = some a := ⟨xs[0], List.getElem?_eq_getElem hlt⟩
 obtain ⟨b, hb⟩ : ∃ b, xs[xs.length - 1]? = some b := ⟨xs[xs.length - 1], List.getElem?_eq_getElem hlt2⟩
 have hw : w64 ((xs.length : Int) - 1) = ((xs.length - 1 : Nat) : Int) := by rw [w64_id (by omega) (by omega)]; omega
 have hga := goodPt_tame (List.all_eq_true.1 hall a (List.mem_of_getElem? ha))
 have hgb := goodPt_tame (List.all_eq_true.1 hall b (List.mem_of_getElem? hb))
 obtain ⟨h2, h3, h4, h5, _⟩ := isRat_iff.1 hga.2
 have t0 : tame (0, 1) := ⟨by decide, by decide, by decide, by decide⟩
 have t1 : tame (1, 1) := ⟨by decide, by decide, by decide, by decide⟩
 have z0 : idxO xs 0 = some a := by rw [show (0 : Int) = ((0 : Nat) : Int) from rfl, idxO_nat, ha]
 have e1 : w64 (1 * a.2.2) = a.2.2 := by rw [w64_id (by omega) (by omega)]; omega
 have e2 : w64 (a.2.1 + a.2.2) = a.2.1 + a.2.2 := w64_id (by omega) (by omega)
 unfold spec_liGood_k1 impl_isLift_k1 ends
 simp only [z0, hw, idxO_nat, ha, hb, Option.bind_some, spec_raInt, impl_zero, impl_oneRat, spec_liPlus, e1, e2, spec_raCmp_eq a.1 (0, 1) (tame_of hga.1) t0, spec_raCmp_eq b.1 (1, 1) (tame_of hgb.1) t1, cmp_zero, zero_iff hga.1, one_iff hgb.1, pair_beq a.1 (0, 1), pair_beq b.1 (1, 1), pair_beq b.2 (a.2.1 + a.2.2, a.2.2)]
 constructor <;> cases (a.1 == (0, 1)) <;> cases (b.1 == (1, 1)) <;> simp
theorem spec_liGood_eq (xs : List Pt) (hl : xs.length ≤ 4611686018427387904) : spec_liGood xs = some (isLift xs) := by
 unfold spec_liGood isLift
 rw [spec_l1In_eq, Option.bind_some]
 cases h : inB 2 12 xs.length
 ·simp
 ·obtain ⟨h1, h2⟩ := inB_iff.1 h
  obtain ⟨y, h3, h4⟩ := spec_liGood_loop xs hl
  simp only [Bool.not_true, Bool.false_eq_true, if_false, h3, Option.bind_some, Bool.true_and]
  rcases h4 with ⟨rfl, h4⟩ | ⟨rfl, h4⟩
  ·have hd : ∀ {p : Prop} (inst : Decidable p), ¬ p → decide p = false := fun _ h => decide_eq_false h
   rw [hd _ h4]; simp
  ·simp only [Sum.elim_inr, (ends_aux xs (by omega) (by omega) h4.1).1, h4, and_self, decide_true, Bool.true_and]
theorem impl_isLift_eq (xs : List Pt) (hl : xs.length ≤ 4611686018427387904) : impl_isLift xs = some (isLift xs) := by
 unfold impl_isLift isLift
 rw [impl_within_eq, Option.bind_some]
 cases h : inB 2 12 xs.length
 ·simp
 ·obtain ⟨h1, h2⟩ := inB_iff.1 h
  rw [slices_ContainsFunc_Limpl_Point_impl_Point_eq xs (fun x0 => impl_isLift_1 x0) _ impl_isLift_1_eq hl]
  cases hall : xs.all goodPt
  ·have : (xs.any fun p => !goodPt p) = true := by rw [List.any_eq_not_all_not]; simp [hall]
   simp [this]
  ·have hany : (xs.any fun p => !goodPt p) = false := by rw [List.any_eq_not_all_not]; simp [hall]
   obtain ⟨y, h3, h4⟩ := impl_isLift_loop xs hl (by omega) hall
   simp only [Bool.not_true, Bool.false_eq_true, if_false, hany, h3, Option.bind_some, Bool.true_and]
   rcases h4 with ⟨rfl, h4⟩ | ⟨rfl, h4⟩
   ·have hd : ∀ {p : Prop} (inst : Decidable p), ¬ p → decide p = false := fun _ h => decide_eq_false h
    rw [hd _ (fun h => h4 h.2)]; simp
   ·simp only [Sum.elim_inr, (ends_aux xs (by omega) (by omega) hall).2, h4, and_self, decide_true, Bool.true_and]
theorem laws_eqLift_self (xs : List Pt) (hl : xs.length ≤ 4611686018427387904) : laws_eqLift xs xs = some true := by
 simp [laws_eqLift, laws_eqPointS_self xs hl]
end Go.PV

/-
 Plain laws: maps of the interval.
 Conditions: none.
-/
set_option linter.all false
namespace Go.PV
section
variable {α β : Type}
end
def isMapT (n : Nat) (p : Nat → Pt) : Prop := (∀ i, i < n → coord (p i).1 = true ∧ coord (p i).2 = true) ∧ (∀ i, 0 < i → i < n → less (p (i - 1)).1 (p i).1 = true) ∧ (p 0).1 = (0, 1) ∧ (p (n - 1)).1 = (1, 1)
end Go.PV

/-
 Plain laws: the variation of a map.
 Conditions: none.
-/
set_option linter.all false
namespace Go.PV
def sumD (r : Nat → Rt) : Nat → Option Rt
 | 0 => some (0, 1)
 | k + 1 => (sumD r k).bind fun s => (distQ (r k) (r (k + 1))).bind fun d => addQ s d
end Go.PV

/-
 Plain laws: slopes and laps of a map.
 Conditions: none.
-/
set_option linter.all false
namespace Go.PV
structure LowOk (n d : Int) (r : Rt) : Prop where
 eq : lowQ n d = some r
 rat : isRat r = true
 num : r.1.natAbs ≤ n.natAbs
 den : 1 ≤ r.2 ∧ r.2 ≤ d
 pos : 0 < n → 0 < r.1
 neg : n < 0 → r.1 < 0
 zer : n = 0 → r.1 = 0
theorem lowQ_some_nonneg {n d : Int} (h1 : 0 ≤ n) (h2 : n ≤ 1000000000) (h3 : 1 ≤ d) (h4 : d ≤ 1000000000) : ∃ r, LowOk n d r := by
 have hg : 0 < Int.gcd n d := Int.gcd_pos_of_ne_zero_right _ (by omega)
 have hdn : ¬ d < 0 := by omega
 have hr := lowest_isRat h1 h2 h3 h4
 have e : lowest n d = if isRat (Int.tdiv n (Int.gcd n d : Int), Int.tdiv d (Int.gcd n d : Int)) = true then ((Int.tdiv n (Int.gcd n d : Int), Int.tdiv d (Int.gcd n d : Int)), true) else ((0, 0), false) := by
  unfold lowest; simp only [if_neg hdn]
 have hrat : isRat (Int.tdiv n (Int.gcd n d : Int), Int.tdiv d (Int.gcd n d : Int)) = true := by
  refine Classical.byContradiction fun hno => ?_
  rw [e, if_neg hno] at hr
  exact absurd hr (by decide)
 rw [if_pos hrat] at e
 have e1 : Int.tdiv n (Int.gcd n d : Int) = n / (Int.gcd n d : Int) := Int.tdiv_eq_ediv_of_nonneg h1
 have e2 : Int.tdiv d (Int.gcd n d : Int) = d / (Int.gcd n d : Int) := Int.tdiv_eq_ediv_of_nonneg (by omega)
 have hgn : 0 < n → (Int.gcd n d : Int) ≤ n := fun h => by
  have := Nat.gcd_le_left d.natAbs (show 0 < n.natAbs by omega)
  have e : Int.gcd n d = Nat.gcd n.natAbs d.natAbs := rfl
  omega
 refine ⟨_, ⟨by unfold lowQ; rw [e]; rfl, hrat, ?_, ⟨(isRat_iff.1 hrat).1, ?_⟩, fun h => ?_, fun h => by omega, fun h => by subst h; simp⟩⟩
 ·exact tdiv_bound _ _
 ·show Int.tdiv d _ ≤ d
  have := tdiv_bound d (Int.gcd n d : Int)
  have h5 := (isRat_iff.1 hrat).1
  simp only at h5
  omega
 ·show 0 < Int.tdiv n _
  rw [e1]
  exact Int.ediv_pos_of_pos_of_dvd h (by omega) (Int.gcd_dvd_left ..)
theorem lowQ_some {n d : Int} (h1 : -1000000000 ≤ n) (h2 : n ≤ 1000000000) (h3 : 1 ≤ d) (h4 : d ≤ 1000000000) : ∃ r, LowOk n d r := by
 by_cases hn : 0 ≤ n
 ·exact lowQ_some_nonneg hn h2 h3 h4
 ·obtain ⟨r, h⟩ := lowQ_some_nonneg (n := -n) (d := d) (by omega) (by omega) h3 h4
  have e := lowQ_neg (n := -n) (d := d) (by omega)
  rw [Int.neg_neg, h.eq] at e
  have hr := isRat_neg h.rat
  have := h.pos (by omega)
  have := h.num
  exact ⟨(-r.1, r.2), ⟨e, by rw [Int.zero_sub] at hr; exact hr, by show (-r.1).natAbs ≤ _; omega, h.den, fun h => by omega, fun h => by show -r.1 < 0; omega, fun h => by omega⟩⟩
theorem coord_bd {r : Rt} (h : coord r = true) : 0 ≤ r.1 ∧ r.1 ≤ r.2 ∧ 1 ≤ r.2 ∧ r.2 ≤ 100 := by
 simp only [coord, isUnit, Bool.and_eq_true, inB_iff, decide_eq_true_eq] at h
 have := isRat_iff.1 h.1.1
 omega
theorem mul_bd {a b A B : Int} (h1 : -A ≤ a) (h2 : a ≤ A) (h3 : -B ≤ b) (h4 : b ≤ B) (hA : 0 ≤ A) (hB : 0 ≤ B) : -(A * B) ≤ a * b ∧ a * b ≤ A * B := by
 have h5 : (a * b).natAbs ≤ A.natAbs * B.natAbs := by rw [Int.natAbs_mul]; exact Nat.mul_le_mul (by omega) (by omega)
 have h6 : ((A.natAbs * B.natAbs : Nat) : Int) = A * B := by rw [Int.natCast_mul]; rw [Int.natAbs_of_nonneg hA, Int.natAbs_of_nonneg hB]
 omega
def small (r : Rt) : Prop := isRat r = true ∧ -500 ≤ r.1 ∧ r.1 ≤ 500 ∧ 1 ≤ r.2 ∧ r.2 ≤ 100
theorem small_coord {r : Rt} (h : coord r = true) : small r := by
 have := coord_bd h
 exact ⟨coord_rat h, by omega, by omega, by omega, by omega⟩
theorem sub_small {a b : Rt} (ha : small a) (hb : small b) : ∃ r, LowOk (a.1 * b.2 - b.1 * a.2) (a.2 * b.2) r ∧ subQ a b = some r ∧ r.1.natAbs ≤ 100000 ∧ r.2 ≤ 10000 := by
 obtain ⟨_, a1, a2, a3, a4⟩ := ha
 obtain ⟨_, b1, b2, b3, b4⟩ := hb
 have m1 := mul_bd (a := a.1) (b := b.2) (A := 500) (B := 100) (by omega) (by omega) (by omega) (by omega) (by omega) (by omega)
 have m2 := mul_bd (a := b.1) (b := a.2) (A := 500) (B := 100) (by omega) (by omega) (by omega) (by omega) (by omega) (by omega)
 have m3 := mul_bd (a := a.2) (b := b.2) (A := 100) (B := 100) (by omega) (by omega) (by omega) (by omega) (by omega) (by omega)
 have p3 : 0 < a.2 * b.2 := Int.mul_pos (by omega) (by omega)
 obtain ⟨r, hr⟩ := lowQ_some (n := a.1 * b.2 - b.1 * a.2) (d := a.2 * b.2) (by omega) (by omega) (by omega) (by omega)
 have h5 := hr.num
 have h6 := hr.den
 exact ⟨r, hr, hr.eq, by omega, by omega⟩
def slopeQ (p q : Pt) : Rt := (((subQ q.2 p.2).bind fun u => (subQ q.1 p.1).bind fun v => divQ u v)).getD (0, 0)
structure SlopeOk (p q : Pt) (u v : Rt) : Prop where
 up : subQ q.2 p.2 = some u
 far : subQ q.1 p.1 = some v
 ru : isRat u = true
 rv : isRat v = true
 div : divQ u v = some (slopeQ p q)
 rs : isRat (slopeQ p q) = true
 ub : u.1.natAbs ≤ 100000 ∧ u.2 ≤ 10000
 vb : v.1.natAbs ≤ 10000 ∧ v.2 ≤ 10000
 vp : 0 < v.1
 sg : (0 < (slopeQ p q).1 ↔ 0 < u.1) ∧ ((slopeQ p q).1 < 0 ↔ u.1 < 0)
theorem slope_ok {p q : Pt} (hp1 : coord p.1 = true) (hp2 : small p.2) (hq1 : coord q.1 = true) (hq2 : small q.2) (hl : less p.1 q.1 = true) : ∃ u v, SlopeOk p q u v := by
 obtain ⟨u, hu, e1, u1, u2⟩ := sub_small hq2 hp2
 obtain ⟨v, hv, e2, v1', v2⟩ := sub_small (small_coord hq1) (small_coord hp1)
 have v1 : v.1.natAbs ≤ 10000 := by
  have h1 := hv.num
  obtain ⟨a1, a2, a3, a4⟩ := coord_bd hq1
  obtain ⟨b1, b2, b3, b4⟩ := coord_bd hp1
  have m1 := mul_bd (a := q.1.1) (b := p.1.2) (A := 100) (B := 100) (by omega) (by omega) (by omega) (by omega) (by omega) (by omega)
  have m2 := mul_bd (a := p.1.1) (b := q.1.2) (A := 100) (B := 100) (by omega) (by omega) (by omega) (by omega) (by omega) (by omega)
  have p1 : 0 ≤ q.1.1 * p.1.2 := Int.mul_nonneg a1 (by omega)
  have p2 : 0 ≤ p.1.1 * q.1.2 := Int.mul_nonneg b1 (by omega)
  omega
 have hlt : p.1.1 * q.1.2 < q.1.1 * p.1.2 := by simpa [less] using hl
 have hvp := hv.pos (by omega)
 have hud := hu.den
 have hvd := hv.den
 have m1 := mul_bd (a := u.1) (b := v.2) (A := 100000) (B := 10000) (by omega) (by omega) (by omega) (by omega) (by omega) (by omega)
 have m2 := mul_bd (a := u.2) (b := v.1) (A := 10000) (B := 10000) (by omega) (by omega) (by omega) (by omega) (by omega) (by omega)
 have m3 : 0 < u.2 * v.1 := Int.mul_pos (by omega) hvp
 obtain ⟨s, hs⟩ := lowQ_some (n := u.1 * v.2) (d := u.2 * v.1) (by omega) (by omega) (by omega) (by omega)
 have e3 : divQ u v = some s := by unfold divQ; rw [if_neg (by omega)]; exact hs.eq
 have e4 : slopeQ p q = s := by unfold slopeQ; rw [e1, e2]; simp [e3]
 refine ⟨u, v, ⟨e1, e2, hu.rat, hv.rat, by rw [e4]; exact e3, by rw [e4]; exact hs.rat, ⟨u1, u2⟩, ⟨v1, v2⟩, hvp, ?_⟩⟩
 rw [e4]
 have hv2 : 0 < v.2 := by omega
 rcases Int.lt_trichotomy u.1 0 with h | h | h
 ·have h1 : u.1 * v.2 < 0 := Int.mul_neg_of_neg_of_pos h hv2
  have := hs.neg h1
  constructor <;> constructor <;> omega
 ·have h1 : u.1 * v.2 = 0 := by rw [h, Int.zero_mul]
  have := hs.zer h1
  constructor <;> constructor <;> omega
 ·have h1 : 0 < u.1 * v.2 := Int.mul_pos h hv2
  have := hs.pos h1
  constructor <;> constructor <;> omega
section
variable {n : Nat} {p : Nat → Pt}
def slopesT (n : Nat) (p : Nat → Pt) : List Rt := tab (n - 1) fun i => slopeQ (p i) (p (i + 1))
def strictB (n : Nat) (p : Nat → Pt) : Bool := (slopesT n p).all fun s => !(s.1 == 0)
end
end Go.PV

/-
 Plain laws: values of maps and lifts.
 Conditions: none.
-/
set_option linter.all false
namespace Go.PV
structure Curve (n : Nat) (p : Nat → Pt) : Prop where
 lo : 2 ≤ n
 hi : n ≤ 12
 x : ∀ i, i < n → coord (p i).1 = true
 y : ∀ i, i < n → small (p i).2
 up : ∀ i, 0 < i → i < n → less (p (i - 1)).1 (p i).1 = true
 fst : (p 0).1 = (0, 1)
 lst : (p (n - 1)).1 = (1, 1)
def CR (bad : Bool) (o : Option Rt) (v : Rt × Bool) : Prop := isRat v.1 = true ∧ match o with
 | some r => v = (r, bad)
 | none => v.2 = true
section
variable {n : Nat} {p : Nat → Pt}
theorem Curve.piece (h : Curve n p) {i : Nat} (hi : i + 1 < n) : ∃ u v, SlopeOk (p i) (p (i + 1)) u v :=
 slope_ok (h.x i (by omega)) (h.y i (by omega)) (h.x (i + 1) hi) (h.y (i + 1) hi) (h.up (i + 1) (by omega) hi)
structure AtJ (n : Nat) (p : Nat → Pt) (x : Rt) (j : Nat) : Prop where
 lt : j < n
 bef : ∀ k, k < j → less (p k).1 x = true
 at' : less (p j).1 x = false
def onQ (p q : Pt) (x : Rt) : Option Rt := (subQ x p.1).bind fun far => (mulQ (slopeQ p q) far).bind fun up => addQ p.2 up
end
end Go.PV

/-
 Plain laws: values of lifts.
 Conditions: none.
-/
set_option linter.all false
namespace Go.PV
structure LiftT (n : Nat) (p : Nat → Pt) : Prop where
 cur : Curve n p
 mono : ∀ i, 0 < i → i < n → less (p i).2 (p (i - 1)).2 = false
 lstY : (p (n - 1)).2 = ((p 0).2.1 + (p 0).2.2, (p 0).2.2)
 by5 : ∀ i, i < n → -5 * (p i).2.2 ≤ (p i).2.1 ∧ (p i).2.1 ≤ 5 * (p i).2.2
theorem isLift_tab {f : List Pt} (h : isLift f = true) : ∃ n p, f = tab n p ∧ LiftT n p := by
 unfold isLift at h
 simp only [Bool.and_eq_true, decide_eq_true_eq] at h
 obtain ⟨hin, ⟨hall, hst⟩, he⟩ := h
 have hb := inB_iff.1 hin
 have e : f = tab f.length (fun i => f.getD i ((0, 0), (0, 0))) := tab_eta f
 have hg : ∀ i, i < f.length → goodPt (f.getD i ((0, 0), (0, 0))) = true := fun i hi => by
  have : f.getD i ((0, 0), (0, 0)) = f[i] := by simp [hi]
  rw [this]; exact List.all_eq_true.1 hall _ (List.getElem_mem hi)
 have hget : ∀ i, i < f.length → f[i]? = some (f.getD i ((0, 0), (0, 0))) := fun i hi => by simp [hi]
 have hs : ∀ i, 0 < i → i < f.length → stepPt (f.getD (i - 1) ((0, 0), (0, 0))) (f.getD i ((0, 0), (0, 0))) = true := fun i h0 hi => hst i _ _ h0 hi (hget (i - 1) (by omega)) (hget i hi)
 unfold ends at he
 rw [hget 0 (by omega), hget (f.length - 1) (by omega)] at he
 simp only [Bool.and_eq_true, beq_iff_eq] at he
 have hgp : ∀ i, i < f.length → coord (f.getD i ((0, 0), (0, 0))).1 = true ∧ isRat (f.getD i ((0, 0), (0, 0))).2 = true ∧ (f.getD i ((0, 0), (0, 0))).2.2 ≤ 100 ∧ -5 * (f.getD i ((0, 0), (0, 0))).2.2 ≤ (f.getD i ((0, 0), (0, 0))).2.1 ∧ (f.getD i ((0, 0), (0, 0))).2.1 ≤ 5 * (f.getD i ((0, 0), (0, 0))).2.2 := fun i hi => by
  have := hg i hi
  simp only [goodPt, Bool.and_eq_true, decide_eq_true_eq, inB_iff] at this
  exact ⟨this.1, this.2.1, this.2.2.1, this.2.2.2.1, this.2.2.2.2⟩
 refine ⟨f.length, fun i => f.getD i ((0, 0), (0, 0)), e, ⟨⟨by omega, by omega, fun i hi => (hgp i hi).1, fun i hi => ?_, fun i h0 hi => ?_, he.1, he.2.1⟩, fun i h0 hi => ?_, he.2.2, fun i hi => (hgp i hi).2.2.2⟩⟩
 ·obtain ⟨_, h1, h2, h3, h4⟩ := hgp i hi
  have := isRat_iff.1 h1
  exact ⟨h1, by omega, by omega, by omega, h2⟩
 ·have := hs i h0 hi
  simp only [stepPt, Bool.and_eq_true] at this
  exact this.1
 ·have := hs i h0 hi
  simp only [stepPt, Bool.and_eq_true, Bool.not_eq_true'] at this
  exact this.2
theorem both_isLift (f : List Pt) (hl : f.length ≤ 4611686018427387904) : spec_liGood f = some (isLift f) ∧ impl_isLift f = some (isLift f) := ⟨spec_liGood_eq f hl, impl_isLift_eq f hl⟩
def flr (x : Rt) : Int := floorDiv x.1 x.2
def part (x : Rt) : Rt := (x.1 - flr x * x.2, x.2)
structure PartOk (x : Rt) : Prop where
 rat : isRat (part x) = true
 lo : 0 ≤ (part x).1
 hi : (part x).1 < (part x).2
 spec : spec_raFloor x = some (flr x)
 impl : impl_floor x = some (flr x)
 bd : flr x * x.2 ≤ x.1 ∧ x.1 < flr x * x.2 + x.2
section
variable {n : Nat} {p : Nat → Pt}
open Classical in
noncomputable def atQ (n : Nat) (p : Nat → Pt) (x : Rt) : Option Rt := if h : ∃ j, AtJ n p x j then onQ (p (Classical.choose h - 1)) (p (Classical.choose h - 1 + 1)) x else none
noncomputable def liftQ (n : Nat) (p : Nat → Pt) (x : Rt) : Option Rt := (atQ n p (part x)).bind fun y => addQ y (flr x, 1)
end
end Go.PV

/-
 Plain laws: texts of lifts.
 Conditions: none.
-/
set_option linter.all false
namespace Go.PV
def ptB (q : Pt) : ByteArray := ratB q.1 ++ ByteArray.mk #[32] ++ ratB q.2 ++ ByteArray.mk #[59]
def txtB : List Pt → ByteArray
 | [] => ByteArray.empty
 | q :: l => ptB q ++ txtB l
theorem txtB_app : ∀ (l l' : List Pt), txtB (l ++ l') = txtB l ++ txtB l'
 | [], l' => by show txtB l' = ByteArray.empty ++ txtB l'; rw [ByteArray.empty_append]
 | q :: l, l' => by show ptB q ++ txtB (l ++ l') = (ptB q ++ txtB l) ++ txtB l'; rw [txtB_app l l', ByteArray.append_assoc]
def ratP (q : Pt) : Bool := isRat q.1 && isRat q.2
theorem ptB_size {q : Pt} (h : ratP q = true) : (ptB q).size ≤ 6000000002 ∧ 1 ≤ (ptB q).size := by
 simp only [ratP, Bool.and_eq_true] at h
 obtain ⟨_, _, z1⟩ := both_ratText h.1
 obtain ⟨_, _, z2⟩ := both_ratText h.2
 have c1 : (ByteArray.mk #[32]).size = 1 := rfl
 have c2 : (ByteArray.mk #[59]).size = 1 := rfl
 unfold ptB
 rw [ByteArray.size_append, ByteArray.size_append, ByteArray.size_append]
 omega
theorem txtB_size : ∀ {l : List Pt}, l.all ratP = true → (txtB l).size ≤ 6000000002 * l.length
 | [], _ => by show (0 : Nat) ≤ _; omega
 | q :: l, h => by
  simp only [List.all_cons, Bool.and_eq_true] at h
  have a := (ptB_size h.1).1
  have b := txtB_size h.2
  show (ptB q ++ txtB l).size ≤ _
  rw [ByteArray.size_append, List.length_cons]
  omega
theorem pt_guards {q : Pt} (h : ratP q = true) {n : Nat} (hn : n ≤ 12 * 6000000002) :
  spec_raText q.1 = some (ratB q.1) ∧ impl_ratText q.1 = some (ratB q.1) ∧ spec_raText q.2 = some (ratB q.2) ∧ impl_ratText q.2 = some (ratB q.2) ∧
  ((ratB q.1).size + (ByteArray.mk #[32]).size ≤ 1099511627776) ∧ ((ratB q.1 ++ ByteArray.mk #[32]).size + (ratB q.2).size ≤ 1099511627776) ∧ (((ratB q.1 ++ ByteArray.mk #[32]) ++ ratB q.2).size + (ByteArray.mk #[59]).size ≤ 1099511627776) ∧
  (n + (((ratB q.1 ++ ByteArray.mk #[32]) ++ ratB q.2) ++ ByteArray.mk #[59]).size ≤ 1099511627776) := by
 have hp := h
 simp only [ratP, Bool.and_eq_true] at h
 obtain ⟨s1, i1, z1⟩ := both_ratText h.1
 obtain ⟨s2, i2, z2⟩ := both_ratText h.2
 have c1 : (ByteArray.mk #[32]).size = 1 := rfl
 have c2 : (ByteArray.mk #[59]).size = 1 := rfl
 refine ⟨s1, i1, s2, i2, ?_, ?_, ?_, ?_⟩
 ·omega
 ·rw [ByteArray.size_append]; omega
 ·rw [ByteArray.size_append, ByteArray.size_append]; omega
 ·rw [ByteArray.size_append, ByteArray.size_append, ByteArray.size_append]; omega
theorem take_size {l : List Pt} (h : l.all ratP = true) (hl : l.length ≤ 12) (i : Nat) : (txtB (l.take i)).size ≤ 12 * 6000000002 := by
 have h2 : (l.take i).all ratP = true := List.all_eq_true.2 fun x hx => List.all_eq_true.1 h x (List.mem_of_mem_take hx)
 have := txtB_size h2
 have h3 : (l.take i).length ≤ 12 := by rw [List.length_take]; omega
 have : 6000000002 * (l.take i).length ≤ 6000000002 * 12 := Nat.mul_le_mul_left _ h3
 omega
theorem txtB_succ (l : List Pt) {i : Nat} (hi : i < l.length) : txtB (l.take i) ++ ptB l[i] = txtB (l.take (i + 1)) := by
 rw [List.take_succ_eq_append_getElem hi, txtB_app]
 show _ = txtB (l.take i) ++ (ptB l[i] ++ ByteArray.empty)
 rw [ByteArray.append_empty]
theorem spec_imText_eq {l : List Pt} (h : l.all ratP = true) (hl : l.length ≤ 12) : spec_imText l = some (txtB l) := by
 have hx := loop_idx (body := spec_imText_b1 l) l.length (fun i => (txtB (l.take i), (i : Int))) (txtB l) (fun i hi => by
  obtain ⟨a1, a2, a3, a4, g1, g2, g3, g4⟩ := pt_guards (List.all_eq_true.1 h _ (List.getElem_mem hi)) (take_size h hl i)
  simp only [spec_imText_b1, show ((i : Int) < (l.length : Int)) from by omega, decide_true, if_true, idxO_lt hi, Option.bind_some, a1, a3]
  rw [guardO_bind_pos g1, guardO_bind_pos g2, guardO_bind_pos g3, guardO_bind_pos g4, w64_nat (show i < 9223372036854775807 by omega)]
  have := txtB_succ l hi
  unfold ptB at this
  rw [this]) (by simp [spec_imText_b1])
 unfold spec_imText
 have hx' : loopO (spec_imText_b1 l) (ByteArray.empty, 0) = some (txtB l) := hx
 rw [hx']
 rfl
theorem isLift_pts {f : List Pt} (h : isLift f = true) : f.all ratP = true ∧ f.length ≤ 12 ∧ 2 ≤ f.length := by
 obtain ⟨n, p, rfl, hT⟩ := isLift_tab h
 refine ⟨List.all_eq_true.2 fun q hq => ?_, by rw [tab_len]; exact hT.cur.hi, by rw [tab_len]; exact hT.cur.lo⟩
 obtain ⟨i, hi, rfl⟩ := tab_mem.1 hq
 simp only [ratP, Bool.and_eq_true]
 exact ⟨coord_rat (hT.cur.x i hi), (hT.cur.y i hi).1⟩
end Go.PV

set_option linter.all false
namespace Go.PV
def minStep (a b : Int × Int) : Int × Int := if less b a = true then b else a
def maxStep (a b : Int × Int) : Int × Int := if less a b = true then b else a
def mnN (r : Nat → Int × Int) (i : Nat) : Int × Int := foldN i (fun s j => minStep s (r j)) (r 0)
def mxN (r : Nat → Int × Int) (i : Nat) : Int × Int := foldN i (fun s j => maxStep s (r j)) (r 0)
def ratN (G : Nat → Nat → Int) (v : Nat → Int) (n i : Nat) : Int × Int := (lowest (dotN (G i) v n) (v i)).1
section
variable {n : Nat} {G : Nat → Nat → Int} {v : Nat → Int}
end
def asked (g : List (List Int)) (u : List Int) : Bool := isGraph g && (isVec u && ((u.length : Int) == (g.length : Int)))
end Go.PV

set_option linter.all false
namespace Go.PV
end Go.PV

/-
 Plain laws: where a lift comes from.
 Conditions: none.
-/
set_option linter.all false
namespace Go.PV
theorem lt_le {a b c : Rt} (ha : isRat a = true) (hb : isRat b = true) (hc : isRat c = true) (h1 : less a b = true) (h2 : less c b = false) : less a c = true := by
 have a2 := (isRat_iff.1 ha).1
 have b2 := (isRat_iff.1 hb).1
 have c2 := (isRat_iff.1 hc).1
 simp only [less, decide_eq_true_eq, decide_eq_false_iff_not] at *
 have m1 := Int.mul_le_mul_of_nonneg_right (show b.1 * c.2 ≤ c.1 * b.2 by omega) (show 0 ≤ a.2 by omega)
 have m2 := Int.mul_lt_mul_of_pos_right h1 (show 0 < c.2 by omega)
 refine Classical.byContradiction fun h3 => ?_
 have m3 := Int.mul_le_mul_of_nonneg_right (show c.1 * a.2 ≤ a.1 * c.2 by omega) (show 0 ≤ b.2 by omega)
 grind
theorem le_le {a b c : Rt} (ha : isRat a = true) (hb : isRat b = true) (hc : isRat c = true) (h1 : less b a = false) (h2 : less c b = false) : less c a = false := by
 cases h : less c a
 ·rfl
 ·have := lt_le hc ha hb h h1
  rw [h2] at this; cases this
def turnK (y x : Rt) : Int := if less (part x) (part y) = true then flr x - flr y - 1 else flr x - flr y
section
variable {n : Nat} {p : Nat → Pt}
def backQ (q r : Pt) (z : Rt) : Option Rt := (subQ z q.2).bind fun u => (divQ u (slopeQ q r)).bind fun v => addQ q.1 v
theorem LiftT.le (h : LiftT n p) : ∀ {i j : Nat}, i ≤ j → j < n → less (p j).2 (p i).2 = false := by
 intro i j hij hj
 induction j with
 | zero =>
  have : i = 0 := by omega
  subst this; simp [less]
 | succ j ih =>
  by_cases he : i = j + 1
  ·subst he; simp [less]
  ·exact le_le (h.cur.y i (by omega)).1 (h.cur.y j (by omega)).1 (h.cur.y (j + 1) hj).1 (ih (by omega) (by omega)) (h.mono (j + 1) (by omega) hj)
structure UpJ (n : Nat) (p : Nat → Pt) (z : Rt) (j : Nat) : Prop where
 pos : 0 < j
 lt : j < n
 bef : ∀ k, k < j → less (p k).2 z = true
 at' : less (p j).2 z = false
structure FlatJ (n : Nat) (p : Nat → Pt) (j : Nat) : Prop where
 pos : 0 < j
 lt : j < n
 same : ∀ k, j < k → k < n → (p (k - 1)).2 = (p k).2
 step : (p (j - 1)).2 ≠ (p j).2
section
variable (h : Curve n p) {z : Rt} (hz : isRat z = true)
include h hz
end
end
end Go.PV

/-
 Plain laws: what fractions stand for.
 Conditions: none.
-/
set_option linter.all false
namespace Go.PV
def val (r : Rt) : Rat := (r.1 : Rat) / (r.2 : Rat)
section
variable {a b r : Rt} (ha : isRat a = true) (hb : isRat b = true)
include ha hb
end
end Go.PV

/-
 Plain laws: the laps of a map.
 Conditions: none.
-/
set_option linter.all false
namespace Go.PV
abbrev Trip := Nat × Nat × Int
def encT (t : Trip) : List Int := [(t.1 : Int), (t.2.1 : Int), t.2.2]
def lapStep (l : List Trip) (i : Nat) (s : Int) : List Trip := match l.getLast? with
 | some t => if t.2.2 = s then l.dropLast ++ [(t.1, i + 1, s)] else l ++ [(i, i + 1, s)]
 | none => l ++ [(i, i + 1, s)]
def lapsN (σ : Nat → Int) : Nat → List Trip
 | 0 => []
 | i + 1 => lapStep (lapsN σ i) i (σ i)
structure LapInv (σ : Nat → Int) (i : Nat) : Prop where
 len : (lapsN σ i).length ≤ i
 ne : 0 < i → lapsN σ i ≠ []
 bd : ∀ t ∈ lapsN σ i, t.1 < t.2.1 ∧ t.2.1 ≤ i
def sg (n : Int) : Int := if 0 < n then 1 else if n < 0 then -1 else 0
section
variable {m : Nat} {r : Nat → Rt}
end
section
variable {n : Nat} {p : Nat → Pt}
def wayOf (p : Nat → Pt) : Nat → Int := fun i => sg (slopeQ (p i) (p (i + 1))).1
def lapsT (n : Nat) (p : Nat → Pt) : List Trip := lapsN (wayOf p) (n - 1)
end
def lbN (c : Int) : Nat → Int → Int × Bool
 | 0, o => (o, true)
 | k + 1, o => if o * c > 1000000000 then (0, false) else lbN c k (o * c)
def fullB (a b : Rt) : Bool := (a == (0, 1) && b == (1, 1)) || (a == (1, 1) && b == (0, 1))
section
variable {n : Nat} {p : Nat → Pt}
def fullN (p : Nat → Pt) (l : List Trip) : Nat := (l.filter fun t => fullB (p t.1).2 (p t.2.1).2).length
end
end Go.PV

/-
 Plain laws: marks on lists, and that they are held.
 Conditions: none.
-/
set_option linter.all false
namespace Go.PV
section
variable {α : Type}
theorem idxO_set {l : List α} {i : Nat} {x : α} (h : i < l.length) : idxO (l.set i x) (i : Int) = some x := by
 rw [idxO_nat, List.getElem?_set]; simp [h]
def marks (w : Nat) (f : Int → α) (n : Nat) (k : Int) : List α := tab n fun i => f (k + (w : Int) * i)
theorem marks_len (w : Nat) (f : Int → α) (n : Nat) (k : Int) : (marks w f n k).length = n := tab_len _ _
theorem mark_loop {body : (List α × Int × Int) → Option ((List α × Int × Int) ⊕ (List α × Int))} (w : Nat) (f : Int → α) (xs : List α) (k : Int) (hk : 0 ≤ k) (hk2 : k + w * xs.length ≤ 4611686018427387904)
  (h : ∀ (l : List α) (i : Nat) (c : Int), i < l.length → i < 4611686018427387904 → 0 ≤ c → c + w ≤ 4611686018427387904 → body (l, c, (i : Int)) = some (.inl (l.set i (f c), c + w, ((i + 1 : Nat) : Int))))
  (hl : xs.length ≤ 4611686018427387904) (h2 : ∀ l c, body (l, c, (l.length : Int)) = some (.inr (l, c))) : loopO body (xs, k, 0) = some (marks w f xs.length k, k + w * xs.length) := by
 have hx := loop_idx (body := body) xs.length (fun i => ((marks w f xs.length k).take i ++ xs.drop i, k + (w : Int) * i, (i : Int))) (marks w f xs.length k, k + w * xs.length) (fun i hi => by
  have hb : (w : Int) * i + w ≤ w * xs.length := by
   have : (w : Int) * ((i + 1 : Nat) : Int) ≤ w * xs.length := Int.mul_le_mul_of_nonneg_left (by omega) (by omega)
   rw [Int.natCast_add, Int.mul_add] at this
   simpa using this
  have hb0 : 0 ≤ (w : Int) * i := Int.mul_nonneg (by omega) (by omega)
  rw [h _ i _ (by simp [marks_len]; omega) (by omega) (by omega) (by omega)]
  rw [set_at _ _ _ (f (k + (w : Int) * i)) (by unfold marks; rw [tab_get hi]) hi]
  congr 3
  rw [Int.natCast_add, Int.mul_add]
  simp
  omega) (by
  have e : (marks w f xs.length k).take xs.length ++ xs.drop xs.length = marks w f xs.length k := by
   rw [List.drop_of_length_le (Nat.le_refl _), List.append_nil, List.take_of_length_le (by rw [marks_len]; exact Nat.le_refl _)]
  rw [e]
  have := h2 (marks w f xs.length k) (k + w * xs.length)
  rw [marks_len] at this
  exact this)
 simpa using hx
theorem held_loop {Y : Type} {body : (Int × Int) → Option ((Int × Int) ⊕ (Y ⊕ Int))} (w : Nat) (n : Nat) (k : Int) (hk : 0 ≤ k) (hk2 : k + w * n ≤ 4611686018427387904) (hn : n ≤ 4611686018427387904)
  (h : ∀ (i : Nat), i < n → 0 ≤ k + (w : Int) * i → k + (w : Int) * i + w ≤ 4611686018427387904 → body (k + (w : Int) * i, (i : Int)) = some (.inl (k + (w : Int) * i + w, ((i + 1 : Nat) : Int))))
  (h2 : ∀ c, body (c, (n : Int)) = some (.inr (.inr c))) : loopO body (k, 0) = some (.inr (k + w * n)) := by
 have hx := loop_idx (body := body) n (fun i => (k + (w : Int) * i, (i : Int))) (.inr (k + w * n)) (fun i hi => by
  have hb : (w : Int) * i + w ≤ w * n := by
   have : (w : Int) * ((i + 1 : Nat) : Int) ≤ w * n := Int.mul_le_mul_of_nonneg_left (by omega) (by omega)
   rw [Int.natCast_add, Int.mul_add] at this
   simpa using this
  have hb0 : 0 ≤ (w : Int) * i := Int.mul_nonneg (by omega) (by omega)
  rw [h i hi (by omega) (by omega)]
  congr 3
  rw [Int.natCast_add, Int.mul_add]
  simp
  omega) (h2 _)
 simpa using hx
end
def markI (n : Nat) (k : Int) : List Int := marks 1 (fun c => c) n k
def markR (n : Nat) (k : Int) : List (Int × Int) := marks 2 (fun c => (c, c + 1)) n k
end Go.PV

/-
 Plain laws: values of the turning point.
 Conditions: none.
-/
set_option linter.all false
namespace Go.PV
section
variable {n : Nat} {p : Nat → Pt}
noncomputable def vQ (n : Nat) (p : Nat → Pt) (c : Rt) : Nat → Option Rt
 | 0 => some c
 | k + 1 => (vQ n p c k).bind (atQ n p)
noncomputable def vv (n : Nat) (p : Nat → Pt) (c : Rt) (k : Nat) : Rt := (vQ n p c k).getD (0, 0)
variable {c : Rt}
structure Stop (n : Nat) (p : Nat → Pt) (c : Rt) (m L : Nat) : Prop where
 le : L ≤ m
 some : vQ n p c L = some (vv n p c L)
 stop : L = m ∨ vQ n p c (L + 1) = none
end
section
variable {n : Nat} {p : Nat → Pt} {t0 t1 : Trip}
end
theorem laws_markPointS_eq (xs : List Pt) (k : Int) (hk : 0 ≤ k) (hk2 : k + 4 * xs.length ≤ 4611686018427387904) : laws_markPointS xs k = some (k + 4 * xs.length, marks 4 (fun c => ((c, c + 1), (c + 1 + 1, c + 1 + 1 + 1))) xs.length k) := by
 unfold laws_markPointS
 rw [mark_loop 4 (fun c => ((c, c + 1), (c + 1 + 1, c + 1 + 1 + 1))) xs k hk (by omega) (fun l i c h1 h3 h4 h5 => by
  have h6 : ∀ x, i < (l.set i x).length := fun x => by simpa using h1
  simp only [laws_markPointS_b1, idxO_lt h1, idxO_set h1, List.set_set, Option.bind_some, show ((i : Int) < (l.length : Int)) from by omega, decide_true, if_true, Int.toNat_natCast, w64_nat (show i < 9223372036854775807 by omega), w64_id (n := c + 1) (by omega) (by omega), w64_id (n := c + 1 + 1) (by omega) (by omega), w64_id (n := c + 1 + 1 + 1) (by omega) (by omega), w64_id (n := c + 1 + 1 + 1 + 1) (by omega) (by omega)]
  congr 3
  simp; omega) (by omega) (fun l c => by simp [laws_markPointS_b1])]
 simp [laws_markPointS_k1]
end Go.PV

/-
 Plain laws: kneading words.
 Conditions: none.
-/
set_option linter.all false
namespace Go.PV
abbrev lcr : ByteArray := ByteArray.mk #[76, 67, 82]
def letter (c z : Rt) : Int := 76 + (if cmp z c = 0 then -9 else if cmp z c = 1 then 6 else 0)
def wordB (c : Rt) (l : List Rt) : ByteArray := bytesB (l.map (letter c))
end Go.PV

/-
 Plain laws: words and heights.
 Conditions: none.
-/
set_option linter.all false
set_option maxRecDepth 100000
namespace Go.PV
def isLet (b : UInt8) : Bool := b == 76 || b == 67 || b == 82
def wordOk (s : ByteArray) : Bool := s.data.toList.all isLet
theorem toList_loop (b : ByteArray) : ∀ (k i : Nat) (r : List UInt8), b.size - i = k → ByteArray.toList.loop b i r = r.reverse ++ b.data.toList.drop i := by
 intro k
 induction k with
 | zero =>
  intro i r h
  rw [ByteArray.toList.loop, if_neg (by omega)]
  rw [List.drop_eq_nil_of_le (by rw [Array.length_toList]; exact Nat.le_of_sub_eq_zero h)]
  simp
 | succ k ih =>
  intro i r h
  have hi : i < b.size := by omega
  rw [ByteArray.toList.loop, if_pos hi, ih (i + 1) _ (by omega)]
  have hl : i < b.data.toList.length := by rw [Array.length_toList]; exact hi
  rw [List.drop_eq_getElem_cons hl]
  have : b.get! i = b.data.toList[i] := by
   have hi' : i < b.data.size := hi
   simp [ByteArray.get!, getElem!_pos b.data i hi']
  simp [this]
theorem ba_toList (b : ByteArray) : b.toList = b.data.toList := by
 unfold ByteArray.toList
 rw [toList_loop b b.size 0 [] rfl]
 simp
def ints (s : ByteArray) : List Int := s.data.toList.map fun b => (b.toNat : Int)
theorem ints_len (s : ByteArray) : (ints s).length = s.size := by
 unfold ints
 rw [List.length_map, Array.length_toList]
 rfl
theorem strAt_ints (s : ByteArray) {i : Nat} (h : i < s.size) : strAt s (i : Int) = (ints s)[i]'(by rw [ints_len]; exact h) := by
 unfold strAt
 rw [dif_pos ⟨by omega, by omega⟩]
 simp [ints]
 rfl
def isL (x : Int) : Bool := x == 76 || x == 67 || x == 82
def rk (x : Int) : Int := if x = 76 then 0 else if x = 67 then 1 else 2
def kcW : Int → List Int → List Int → Int
 | e, x :: xs, y :: ys => if x = y then (if x = 82 then kcW (-e) xs ys else kcW e xs ys) else if rk x < rk y then -e else e
 | _, _, _ => 0
end Go.PV

/-
 Plain laws: texts in pieces.
 Conditions: none.
-/
set_option linter.all false
set_option maxRecDepth 100000
namespace Go.PV
def mkB (l : List UInt8) : ByteArray := ⟨l.toArray⟩
theorem mkB_l (s : ByteArray) : mkB s.data.toList = s := by
 apply ByteArray.ext
 simp [mkB]
theorem mkB_data (l : List UInt8) : (mkB l).data.toList = l := by simp [mkB]
theorem mkB_size (l : List UInt8) : (mkB l).size = l.length := ba_size l
theorem mkB_app (a b : List UInt8) : mkB (a ++ b) = mkB a ++ mkB b := (ba_app a b).symm
theorem mkB_beq (a b : ByteArray) : (a.toList == b.toList) = decide (a = b) := by
 rw [ba_toList, ba_toList]
 by_cases h : a = b
 ·simp [h]
 ·have : a.data.toList ≠ b.data.toList := fun e => h (by rw [← mkB_l a, e, mkB_l])
  rw [decide_eq_false h, beq_eq_false_iff_ne]
  exact this
theorem strAt_mk {l : List UInt8} {i : Nat} (h : i < l.length) : strAt (mkB l) (i : Int) = (l[i].toNat : Int) := by
 rw [strAt_ints _ (by rw [mkB_size]; exact h)]
 simp [ints, mkB]
theorem strCut_mk (l : List UInt8) (i j : Nat) (h : i ≤ j) : strCut (mkB l) (i : Int) (j : Int) = mkB ((l.take j).drop i) := by
 apply ByteArray.ext
 simp [strCut, mkB, ByteArray.data_extract, List.extract]
 rw [List.drop_take]
def spN (l : List UInt8) (c : UInt8) : Nat → List ByteArray × Nat
 | 0 => ([], 0)
 | i + 1 => if l[i]? = some c then ((spN l c i).1 ++ [mkB ((l.take i).drop (spN l c i).2)], i + 1) else spN l c i
def spl (l : List UInt8) (c : UInt8) : List ByteArray := (spN l c l.length).1 ++ [mkB (l.drop (spN l c l.length).2)]
theorem spN_le (l : List UInt8) (c : UInt8) : ∀ i, (spN l c i).2 ≤ i ∧ (spN l c i).1.length ≤ i ∧ ∀ x ∈ (spN l c i).1, x.size ≤ l.length
 | 0 => ⟨Nat.le_refl _, Nat.le_refl _, fun x hx => by cases hx⟩
 | i + 1 => by
  obtain ⟨a, b, d⟩ := spN_le l c i
  unfold spN
  split
  ·refine ⟨Nat.le_refl _, by rw [List.length_append]; simp; omega, fun x hx => ?_⟩
   rcases List.mem_append.1 hx with hx | hx
   ·exact d x hx
   ·rw [List.mem_singleton.1 hx, mkB_size, List.length_drop, List.length_take]; omega
  ·exact ⟨by omega, by omega, d⟩
theorem spl_len (l : List UInt8) (c : UInt8) : 1 ≤ (spl l c).length ∧ (spl l c).length ≤ l.length + 1 := by
 have := (spN_le l c l.length).2.1
 unfold spl
 rw [List.length_append]
 simp; omega
theorem spl_size (l : List UInt8) (c : UInt8) : ∀ x ∈ spl l c, x.size ≤ l.length := fun x hx => by
 rcases List.mem_append.1 hx with hx | hx
 ·exact (spN_le l c l.length).2.2 x hx
 ·rw [List.mem_singleton.1 hx, mkB_size, List.length_drop]; omega
theorem spec_l1Split_eq (l : List UInt8) (c : UInt8) (h : l.length ≤ 1048576) : spec_l1Split (mkB l) (c.toNat : Int) = some (spl l c) := by
 have hx := loop_idx (body := spec_l1Split_b1 (mkB l) (c.toNat : Int)) l.length (fun i => ((spN l c i).1, ((spN l c i).2 : Int), (i : Int))) ((spN l c l.length).1, ((spN l c l.length).2 : Int)) (fun i hi => by
  obtain ⟨a, b, _⟩ := spN_le l c i
  have e : (l[i]? = some c) ↔ (l[i].toNat : Int) = (c.toNat : Int) := by
   rw [List.getElem?_eq_getElem hi, Option.some.injEq]
   constructor
   ·rintro rfl; rfl
   ·intro e; exact UInt8.toNat_inj.1 (by omega)
  simp only [spec_l1Split_b1, mkB_size, show ((i : Int) < (l.length : Int)) from by omega, decide_true, if_true]
  rw [guardO_bind_pos ⟨by omega, trivial⟩, strAt_mk hi, w64_nat (show i < 9223372036854775807 by omega)]
  by_cases he : l[i]? = some c
  ·rw [if_pos (by simpa using e.1 he), guardO_bind_pos ⟨by omega, by omega, by omega⟩, guardO_bind_pos (by simp; omega), strCut_mk _ _ _ a]
   have e1 : spN l c (i + 1) = ((spN l c i).1 ++ [mkB ((l.take i).drop (spN l c i).2)], i + 1) := by
    conv => lhs; unfold spN
    rw [if_pos he]
   rw [e1]
  ·rw [if_neg (by simpa using fun h => he (e.2 h))]
   have e1 : spN l c (i + 1) = spN l c i := by
    conv => lhs; unfold spN
    rw [if_neg he]
   rw [e1]) (by simp [spec_l1Split_b1, mkB_size])
 obtain ⟨a, b, _⟩ := spN_le l c l.length
 unfold spec_l1Split
 have hx' : loopO (spec_l1Split_b1 (mkB l) (c.toNat : Int)) ([], 0, 0) = some ((spN l c l.length).1, ((spN l c l.length).2 : Int)) := hx
 rw [hx']
 simp only [Option.bind_some, spec_l1Split_k1, mkB_size]
 rw [guardO_bind_pos ⟨by omega, by omega⟩, guardO_bind_pos (by simp; omega), strCut_mk _ _ _ a, List.take_length]
 rfl
def glue (c : UInt8) : List (List UInt8) → List UInt8 → List UInt8
 | [], last => last
 | p :: ps, last => p ++ c :: glue c ps last
theorem spN_run {l pre p post : List UInt8} {c : UInt8} {L : List ByteArray} {k : Nat} (hl : l = pre ++ (p ++ post)) (hp : c ∉ p) (h : spN l c pre.length = (L, k)) : ∀ j, j ≤ p.length → spN l c (pre.length + j) = (L, k)
 | 0, _ => h
 | j + 1, hj => by
  show spN l c (pre.length + j + 1) = _
  unfold spN
  have e : l[pre.length + j]? = some p[j] := by
   rw [hl, List.getElem?_append_right (by omega), Nat.add_sub_cancel_left, List.getElem?_append_left (by omega), List.getElem?_eq_getElem (by omega)]
  rw [e, if_neg (fun h2 => hp (by rw [← Option.some.inj h2]; exact List.getElem_mem _))]
  exact spN_run hl hp h j (by omega)
theorem spl_glue {l : List UInt8} {c : UInt8} : ∀ (ps : List (List UInt8)) (last pre : List UInt8) (L : List ByteArray), (∀ p ∈ ps, c ∉ p) → c ∉ last → l = pre ++ glue c ps last → spN l c pre.length = (L, pre.length) → spl l c = L ++ (ps.map mkB ++ [mkB last])
 | [], last, pre, L, _, h2, hl, h => by
  have hl' : l = pre ++ (last ++ []) := by rw [hl, List.append_nil]; rfl
  have := spN_run hl' h2 h last.length (Nat.le_refl _)
  have e : l.length = pre.length + last.length := by rw [hl']; simp
  unfold spl
  rw [e, this]
  simp only [List.map_nil, List.nil_append]
  rw [hl', List.drop_left, List.append_nil]
 | p :: ps, last, pre, L, h1, h2, hl, h => by
  have hl' : l = pre ++ (p ++ (c :: glue c ps last)) := hl
  have a := spN_run hl' (h1 p (by simp)) h p.length (Nat.le_refl _)
  have e : l[pre.length + p.length]? = some c := by
   rw [hl', List.getElem?_append_right (by omega), Nat.add_sub_cancel_left, List.getElem?_append_right (by omega), Nat.sub_self]
   rfl
  have hl2 : l = (pre ++ p ++ [c]) ++ glue c ps last := by rw [hl']; simp
  have n : (pre ++ p ++ [c]).length = pre.length + p.length + 1 := by simp; omega
  have b : spN l c (pre ++ p ++ [c]).length = (L ++ [mkB p], (pre ++ p ++ [c]).length) := by
   rw [n]
   unfold spN
   rw [if_pos e, a]
   have : (l.take (pre.length + p.length)).drop pre.length = p := by
    rw [hl', ← List.append_assoc, show pre.length + p.length = (pre ++ p).length by simp, List.take_left, List.drop_left]
   rw [this]
  have r := spl_glue ps last _ (L ++ [mkB p]) (fun q hq => h1 q (by simp [hq])) h2 hl2 b
  rw [r]
  simp
theorem spl_eq {c : UInt8} (ps : List (List UInt8)) (last : List UInt8) (h1 : ∀ p ∈ ps, c ∉ p) (h2 : c ∉ last) : spl (glue c ps last) c = ps.map mkB ++ [mkB last] := spl_glue (l := glue c ps last) ps last [] [] h1 h2 rfl rfl
def cutR (c : UInt8) : List UInt8 → List UInt8 × List UInt8 × Bool
 | [] => ([], [], false)
 | b :: l => if b = c then ([], l, true) else (b :: (cutR c l).1, (cutR c l).2)
theorem index_lo : ∀ (l sub : List UInt8), -1 ≤ Lib.index l sub
 | [], sub => by unfold Lib.index; split <;> omega
 | b :: l, sub => by
  have := index_lo l sub
  unfold Lib.index
  split
  ·omega
  ·split
   ·omega
   ·omega
theorem cut_eq (c : UInt8) : ∀ l, Lib.cut l [c] = cutR c l
 | [] => rfl
 | b :: l => by
  have ih := cut_eq c l
  unfold cutR
  by_cases h : b = c
  ·rw [if_pos h]
   have e : Lib.index (b :: l) [c] = 0 := by unfold Lib.index; simp [List.isPrefixOf, h]
   unfold Lib.cut
   rw [e]
   rfl
  ·rw [if_neg h, ← ih]
   have hp : ([c].isPrefixOf (b :: l)) = false := by simp [List.isPrefixOf, Ne.symm h]
   have e : Lib.index (b :: l) [c] = if Lib.index l [c] == -1 then -1 else Lib.index l [c] + 1 := by
    conv => lhs; unfold Lib.index
    rw [hp]; rfl
   have lo := index_lo l [c]
   unfold Lib.cut
   rw [e]
   by_cases h2 : Lib.index l [c] = -1
   ·simp [h2]
   ·have h3 : 0 ≤ Lib.index l [c] := by omega
    obtain ⟨k, hk⟩ := Int.eq_ofNat_of_zero_le h3
    have e2 : ((k : Int) == -1) = false := by rw [beq_eq_false_iff_ne]; omega
    rw [hk, e2]
    simp [show (0 : Int) ≤ (k : Int) + 1 from by omega, show ((k : Int) + 1).toNat = k + 1 from by omega]
theorem cutR_hit {c : UInt8} : ∀ {p : List UInt8} (q : List UInt8), c ∉ p → cutR c (p ++ c :: q) = (p, q, true)
 | [], q, _ => by simp [cutR]
 | b :: p, q, h => by
  simp only [List.mem_cons, not_or] at h
  simp [cutR, cutR_hit q h.2, Ne.symm h.1]
theorem cutR_true {c : UInt8} : ∀ {l a b : List UInt8}, cutR c l = (a, b, true) → l = a ++ c :: b
 | [], a, b, h => by simp [cutR] at h
 | x :: l, a, b, h => by
  unfold cutR at h
  split at h
  ·rename_i hx
   simp only [Prod.mk.injEq, and_true] at h
   obtain ⟨rfl, rfl⟩ := h
   rw [hx]; rfl
  ·simp only [Prod.mk.injEq] at h
   obtain ⟨rfl, h2⟩ := h
   have := cutR_true (l := l) (a := (cutR c l).1) (b := b) (by rw [← h2])
   exact congrArg (x :: ·) this
theorem cutR_len (c : UInt8) : ∀ l, (cutR c l).1.length ≤ l.length ∧ (cutR c l).2.1.length ≤ l.length
 | [] => ⟨Nat.le_refl _, Nat.le_refl _⟩
 | x :: l => by
  obtain ⟨a, b⟩ := cutR_len c l
  unfold cutR
  split
  ·simp
  ·simp; omega
theorem strings_Cut_eq (s : ByteArray) (c : UInt8) (h : s.size ≤ 1048576) : strings_Cut s (mkB [c]) = some (mkB (cutR c s.data.toList).1, mkB (cutR c s.data.toList).2.1, (cutR c s.data.toList).2.2) := by
 unfold strings_Cut cutB
 rw [guardO_bind_pos (by omega), mkB_data, cut_eq]
 rfl
end Go.PV

/-
 Plain laws: numerals read.
 Conditions: none.
-/
set_option linter.all false
set_option maxRecDepth 100000
namespace Go.PV
def isDig (b : UInt8) : Bool := decide (48 ≤ b.toNat) && decide (b.toNat ≤ 57)
theorem isDig_iff {b : UInt8} : isDig b = true ↔ 48 ≤ b.toNat ∧ b.toNat ≤ 57 := by simp [isDig]
def valD (a : Nat) (l : List UInt8) : Nat := l.foldl (fun a b => 10 * a + (b.toNat - 48)) a
theorem valD_app (a : Nat) (l m : List UInt8) : valD a (l ++ m) = valD (valD a l) m := by unfold valD; rw [List.foldl_append]
theorem valD_ge : ∀ (l : List UInt8) (a : Nat), a ≤ valD a l
 | [], a => Nat.le_refl _
 | b :: l, a => by
  have := valD_ge l (10 * a + (b.toNat - 48))
  show a ≤ valD (10 * a + (b.toNat - 48)) l
  omega
theorem valD_take (l : List UInt8) (a i : Nat) : valD a (l.take i) ≤ valD a l := by
 conv => rhs; rw [← List.take_append_drop i l, valD_app]
 exact valD_ge _ _
theorem digB {d : Nat} (h : d < 10) : (UInt8.ofNat (48 + d)).toNat = 48 + d := by
 rw [UInt8.toNat_ofNat']
 omega
theorem dec_digs (n : Nat) : (Lib.decDigits n).all isDig = true ∧ valD 0 (Lib.decDigits n) = n ∧ Lib.decDigits n ≠ [] := by
 induction n using Nat.strongRecOn with
 | ind n ih =>
  unfold Lib.decDigits
  split
  ·rename_i h
   refine ⟨?_, ?_, by simp⟩
   ·simp only [List.all_cons, List.all_nil, Bool.and_true, isDig_iff, digB h]; omega
   ·show 10 * 0 + ((UInt8.ofNat (48 + n)).toNat - 48) = n
    rw [digB h]; omega
  ·rename_i h
   obtain ⟨a, b, c⟩ := ih (n / 10) (by omega)
   have hd : n % 10 < 10 := Nat.mod_lt _ (by omega)
   refine ⟨?_, ?_, by simp⟩
   ·rw [List.all_append, a]
    simp only [List.all_cons, List.all_nil, Bool.and_true, Bool.true_and, isDig_iff, digB hd]; omega
   ·rw [valD_app, b]
    show 10 * (n / 10) + ((UInt8.ofNat (48 + n % 10)).toNat - 48) = n
    rw [digB hd]; omega
theorem dec_head (n : Nat) : n < 10 ∨ ∃ b l, Lib.decDigits n = b :: l ∧ 49 ≤ b.toNat := by
 induction n using Nat.strongRecOn with
 | ind n ih =>
  by_cases h : n < 10
  ·exact .inl h
  ·refine .inr ?_
   unfold Lib.decDigits
   rw [dif_neg h]
   rcases ih (n / 10) (by omega) with h1 | ⟨b, l, h1, h2⟩
   ·have : Lib.decDigits (n / 10) = [UInt8.ofNat (48 + n / 10)] := by unfold Lib.decDigits; rw [dif_pos h1]
    exact ⟨_, _, by rw [this]; rfl, by rw [digB h1]; omega⟩
   ·exact ⟨b, l ++ _, by rw [h1]; rfl, h2⟩
theorem dec_len_le : ∀ (k n : Nat), n < 10 ^ (k + 1) → (Lib.decDigits n).length ≤ k + 1
 | 0, n, h => by
  unfold Lib.decDigits
  rw [dif_pos (by omega)]; simp
 | k + 1, n, h => by
  unfold Lib.decDigits
  split
  ·simp
  ·have : n / 10 < 10 ^ (k + 1) := by
    rw [Nat.div_lt_iff_lt_mul (by omega)]
    calc n < 10 ^ (k + 1 + 1) := h
     _ = 10 ^ (k + 1) * 10 := Nat.pow_succ ..
   have := dec_len_le k (n / 10) this
   rw [List.length_append]; simp; omega
theorem dec_len10 {n : Nat} (h : n ≤ 1000000000) : 1 ≤ (Lib.decDigits n).length ∧ (Lib.decDigits n).length ≤ 10 := by
 have a := dec_len_le 9 n (by omega)
 have b := (dec_digs n).2.2
 refine ⟨?_, a⟩
 cases h : Lib.decDigits n with
 | nil => exact absurd h b
 | cons _ _ => simp
theorem dec_no {n : Nat} {c : UInt8} (h : isDig c = false) : c ∉ Lib.decDigits n := fun hc => by
 have := List.all_eq_true.1 (dec_digs n).1 c hc
 rw [h] at this; cases this
theorem itoa_no {n : Int} {c : UInt8} (h : isDig c = false) (h2 : c ≠ 45) : c ∉ Lib.itoa n := by
 unfold Lib.itoa
 split
 ·simp only [List.mem_cons, not_or]; exact ⟨h2, dec_no h⟩
 ·exact dec_no h
theorem itoa_len {n : Int} (h1 : -1000000000 ≤ n) (h2 : n ≤ 1000000000) : 1 ≤ (Lib.itoa n).length ∧ (Lib.itoa n).length ≤ 11 := by
 unfold Lib.itoa
 split
 ·have := dec_len10 (n := n.natAbs) (by omega); simp only [List.length_cons]; omega
 ·have := dec_len10 (n := n.toNat) (by omega); omega
theorem parse10 : ∀ (l : List UInt8) (a : Nat), l.all isDig = true → valD a l ≤ 1000000000 → Lib.parseUint10 a l = .ok (valD a l)
 | [], a, _, _ => rfl
 | b :: l, a, h, hv => by
  simp only [List.all_cons, Bool.and_eq_true] at h
  have hb := isDig_iff.1 h.1
  have hv' : valD (10 * a + (b.toNat - 48)) l ≤ 1000000000 := hv
  have hg := valD_ge l (10 * a + (b.toNat - 48))
  have e : a * 10 + (b.toNat - 48) = 10 * a + (b.toNat - 48) := by omega
  unfold Lib.parseUint10
  rw [if_pos hb, if_neg (by omega), if_neg (by omega), e]
  exact parse10 l _ h.2 hv'
theorem mag_dec {n : Nat} (h : n ≤ 1000000000) : Lib.parseMag (Lib.decDigits n) = .ok n := by
 obtain ⟨a, b, c⟩ := dec_digs n
 unfold Lib.parseMag
 rw [if_neg c, parse10 _ _ a (by rw [b]; exact h), b]
theorem atoi_itoa {n : Int} (h1 : -1000000000 ≤ n) (h2 : n ≤ 1000000000) : atoiV (itoaB n) = (n, true) := by
 have e : Lib.atoiAll (Lib.itoa n) = .ok n := by
  unfold Lib.itoa
  by_cases h : n < 0
  ·rw [if_pos h, Lib.atoiAll_minus, mag_dec (by omega)]
   unfold Lib.signed
   simp only
   rw [if_neg (by omega), show -(n.natAbs : Int) = n by omega]
  ·rw [if_neg h]
   obtain ⟨a, b, c⟩ := dec_digs n.toNat
   have hm := mag_dec (n := n.toNat) (by omega)
   cases hd : Lib.decDigits n.toNat with
   | nil => exact absurd hd c
   | cons x l =>
    rw [hd] at a hm
    simp only [List.all_cons, Bool.and_eq_true] at a
    have hx := isDig_iff.1 a.1
    rw [Lib.atoiAll_plain x l (by omega) (by omega), hm]
    unfold Lib.signless
    simp only
    rw [if_neg (by omega), show (n.toNat : Int) = n by omega]
 unfold atoiV itoaB
 simp only
 rw [e]
theorem spec_raRead_some (l : List UInt8) (h : l.length ≤ 1048576) : ∃ r, spec_raRead (mkB l) = some r := by
 obtain ⟨y, hy, _⟩ := loop_run (body := spec_raRead_b1 (mkB l)) (fun x => ∃ i : Nat, x.2 = i ∧ i ≤ l.length) (fun x => l.length - x.2.toNat) (fun _ => True) (fun x hx => by
  obtain ⟨x1, x2⟩ := x
  obtain ⟨i, hi, hl⟩ := hx
  simp only at hi
  subst hi
  by_cases hlt : i < l.length
  ·have g : (0 : Int) ≤ (i : Int) ∧ (i : Int) < ((mkB l).size : Int) := by rw [mkB_size]; omega
   simp only [spec_raRead_b1]
   rw [if_pos (by rw [mkB_size]; simpa using hlt), guardO_bind_pos g]
   split
   ·exact .inr ⟨_, rfl, trivial⟩
   ·refine .inl ⟨_, rfl, ⟨i + 1, w64_nat (show i < 9223372036854775807 by omega), by omega⟩, ?_⟩
    simp only [w64_nat (show i < 9223372036854775807 by omega)]
    omega
  ·refine .inr ⟨.inr x1, ?_, trivial⟩
   simp only [spec_raRead_b1]
   rw [if_neg (by rw [mkB_size]; simp; omega)]) (0, 0) ⟨0, rfl, by omega⟩
 unfold spec_raRead
 rw [spec_l1In_eq, Option.bind_some, hy]
 cases hb : inB 1 10 ((mkB l).size : Int)
 ·exact ⟨_, rfl⟩
 ·have hb' : 1 ≤ ((mkB l).size : Int) ∧ ((mkB l).size : Int) ≤ 10 := by simpa [inB] using hb
  simp only [Bool.not_true, Bool.false_eq_true, if_false]
  rw [guardO_bind_pos ⟨by omega, by omega⟩]
  have fin : ∀ b : Bool, ∃ r, ((some b).bind fun w3 => if w3 = true then some (-1) else (some y).bind fun y7 => (Sum.elim (fun p => some p) (fun p => spec_raRead_k1 p)) y7 : Option Int) = some r := fun b => by
   cases b
   ·cases y with
    | inl y => exact ⟨_, rfl⟩
    | inr y => exact ⟨_, rfl⟩
   ·exact ⟨_, rfl⟩
  split
  ·exact fin _
  ·exact fin _
theorem wrap_digit {b : UInt8} (h : isDig b = true) : IntKind.wrap .i64 (IntKind.wrap .u8 ((b.toNat : Int) - 48)) = ((b.toNat - 48 : Nat) : Int) := by
 have hb := isDig_iff.1 h
 have h1 : IntKind.wrap .u8 ((b.toNat : Int) - 48) = ((b.toNat - 48 : Nat) : Int) := by
  simp only [IntKind.wrap, IntKind.bits, IntKind.signed]
  simp
  omega
 rw [h1]
 exact w64_id (by omega) (by omega)
theorem spec_raRead_dec {n : Nat} (h : n ≤ 1000000000) : spec_raRead (mkB (Lib.decDigits n)) = some (n : Int) := by
 obtain ⟨a, b, c⟩ := dec_digs n
 obtain ⟨l1, l2⟩ := dec_len10 h
 have hx := loop_idx (body := spec_raRead_b1 (mkB (Lib.decDigits n))) (Lib.decDigits n).length (fun i => ((valD 0 ((Lib.decDigits n).take i) : Int), (i : Int))) (.inr (n : Int)) (fun i hi => by
  have hd := List.all_eq_true.1 a _ (List.getElem_mem hi)
  have hb := isDig_iff.1 hd
  have e : valD 0 ((Lib.decDigits n).take (i + 1)) = 10 * valD 0 ((Lib.decDigits n).take i) + ((Lib.decDigits n)[i].toNat - 48) := by
   rw [List.take_succ_eq_append_getElem hi, valD_app]; rfl
  have le := valD_take (Lib.decDigits n) 0 (i + 1)
  rw [b] at le
  simp only [spec_raRead_b1]
  rw [if_pos (by rw [mkB_size]; simpa using hi), guardO_bind_pos (by rw [mkB_size]; omega), strAt_mk hi, if_neg (by simp; omega), w64_nat (show i < 9223372036854775807 by omega), wrap_digit hd,
   w64_id (n := 10 * (valD 0 ((Lib.decDigits n).take i) : Int)) (by omega) (by omega), w64_id (by omega) (by omega), e]
  simp only [Int.natCast_add, Int.natCast_mul]
  rfl) (by
   simp only [spec_raRead_b1]
   rw [if_neg (by rw [mkB_size]; simp), List.take_length, b])
 have hx' : loopO (spec_raRead_b1 (mkB (Lib.decDigits n))) (0, 0) = some (.inr (n : Int)) := hx
 unfold spec_raRead
 rw [spec_l1In_eq, Option.bind_some, hx', show inB 1 10 ((mkB (Lib.decDigits n)).size : Int) = true by rw [mkB_size]; simp [inB]; omega]
 simp only [Bool.not_true, Bool.false_eq_true, if_false]
 rw [guardO_bind_pos (by rw [mkB_size]; omega)]
 have h0 : strAt (mkB (Lib.decDigits n)) 0 = ((Lib.decDigits n)[0].toNat : Int) := strAt_mk (i := 0) l1
 rw [h0]
 by_cases h1 : n < 10
 ·have : Lib.decDigits n = [UInt8.ofNat (48 + n)] := by unfold Lib.decDigits; rw [dif_pos h1]
  simp only [mkB_size, this]
  split <;> rfl
 ·rcases dec_head n with h2 | ⟨x, l, h2, h3⟩
  ·exact absurd h2 h1
  ·rw [if_neg (by
    simp only [h2, List.getElem_cons_zero]
    simp; omega)]
   rfl
end Go.PV

set_option linter.all false
namespace Go.PV
def flatP (xs : List Pt) (n : Nat) : Prop := ∃ i a b, 0 < i ∧ i < n ∧ xs[i - 1]? = some a ∧ xs[i]? = some b ∧ a.2 = b.2
end Go.PV

/-
 Plain laws: plateaus.
 Conditions: none.
-/
set_option linter.all false
namespace Go.PV
def markV (n : Nat) (k : Int) : List Pt := marks 4 (fun c => ((c, c + 1), (c + 1 + 1, c + 1 + 1 + 1))) n k
theorem laws_heldIntervalS_eq (n : Nat) (k : Int) (hk : 0 ≤ k) (hk2 : k + 4 * n ≤ 4611686018427387904) : laws_heldIntervalS (markV n k) k = some (k + 4 * n) := by
 unfold laws_heldIntervalS
 rw [held_loop (body := laws_heldIntervalS_b1 (markV n k)) 4 n k hk (by omega) (by omega) (fun i hi h3 h4 => by
  have e : idxO (markV n k) (i : Int) = some ((k + ((4 : Nat) : Int) * i, k + ((4 : Nat) : Int) * i + 1), (k + ((4 : Nat) : Int) * i + 1 + 1, k + ((4 : Nat) : Int) * i + 1 + 1 + 1)) := idxO_tab hi
  simp only [laws_heldIntervalS_b1, show (markV n k).length = n from marks_len _ _ _ _, e, Option.bind_some, show ((i : Int) < (n : Int)) from by omega, decide_true, if_true, w64_nat (show i < 9223372036854775807 by omega), bne_self_eq_false, Bool.false_eq_true, if_false, w64_id (n := k + ((4 : Nat) : Int) * (i : Int) + 1) (by omega) (by omega), w64_id (n := k + ((4 : Nat) : Int) * (i : Int) + 1 + 1) (by omega) (by omega), w64_id (n := k + ((4 : Nat) : Int) * (i : Int) + 1 + 1 + 1) (by omega) (by omega), w64_id (n := k + ((4 : Nat) : Int) * (i : Int) + 1 + 1 + 1 + 1) (by omega) (by omega)]
  congr 3; simp; omega) (fun c => by simp [laws_heldIntervalS_b1, show (markV n k).length = n from marks_len _ _ _ _])]
 simp [laws_heldIntervalS_k1]
theorem laws_markLift_eq (xs : List Pt) (k : Int) (hk : 0 ≤ k) (hk2 : k + 4 * xs.length ≤ 4611686018427387904) : laws_markLift xs k = some (k + 4 * xs.length, markV xs.length k) := laws_markPointS_eq xs k hk hk2
end Go.PV

/-
 Plain laws: lifts turned.
 Conditions: none.
-/
set_option linter.all false
namespace Go.PV
section
variable {n : Nat} {p : Nat → Pt} {y : Rt}
def tnO (p : Nat → Pt) (y : Rt) (i : Nat) : Option Rt := addQ (p i).2 y
def tnB (p : Nat → Pt) (y : Rt) (i : Nat) : Bool := (List.range i).any fun j => (tnO p y j).isNone
def tnP (p : Nat → Pt) (y : Rt) (i : Nat) : Pt := ((p i).1, (cK false (tnO p y i)).1)
end
theorem laws_heldLift_eq (n : Nat) (k : Int) (hk : 0 ≤ k) (hk2 : k + 4 * n ≤ 4611686018427387904) : laws_heldLift (markV n k) k = some (k + 4 * n) := by
 unfold laws_heldLift
 have h : laws_heldPointS (markV n k) k = some (k + 4 * n) := laws_heldIntervalS_eq n k hk hk2
 rw [h, Option.bind_some]
 simp only [show ¬ (k + 4 * (n : Int) < 0) from by omega, decide_false, Bool.false_eq_true, if_false]
end Go.PV

/-
 Plain laws: lifts read.
 Conditions: none.
-/
set_option linter.all false
set_option maxRecDepth 100000
namespace Go.PV
theorem cut1_size (s : ByteArray) : (strCut s 1 (s.size : Int)).size ≤ s.size := by
 have := strCut_mk s.data.toList 1 s.data.toList.length
 by_cases h : 1 ≤ s.data.toList.length
 ·have e := this h
  rw [mkB_l, show (s.data.toList.length : Int) = (s.size : Int) by rw [Array.length_toList]; rfl] at e
  have e' : strCut s 1 (s.size : Int) = _ := e
  rw [e', mkB_size, List.length_drop, List.length_take, Array.length_toList]
  show _ ≤ s.data.size
  omega
 ·unfold strCut
  rw [ByteArray.size_extract]
  simp
def ratL (r : Int × Int) : List UInt8 := Lib.itoa r.1 ++ 47 :: Lib.itoa r.2
theorem ratB_eq (r : Int × Int) : ratB r = mkB (ratL r) := by
 unfold ratB ratL
 rw [show (47 :: Lib.itoa r.2) = [47] ++ Lib.itoa r.2 from rfl, ← List.append_assoc, mkB_app, mkB_app]
 rfl
theorem ratL_len {r : Int × Int} (h : isRat r = true) : 3 ≤ (ratL r).length ∧ (ratL r).length ≤ 22 := by
 obtain ⟨r1, r2, r3, r4, _⟩ := isRat_iff.1 h
 have a := itoa_len (n := r.1) (by omega) (by omega)
 have b : 1 ≤ (Lib.itoa r.2).length ∧ (Lib.itoa r.2).length ≤ 10 := by
  unfold Lib.itoa
  rw [if_neg (by omega)]
  exact dec_len10 (by omega)
 unfold ratL
 rw [List.length_append, List.length_cons]
 omega
theorem ratL_no {r : Int × Int} {c : UInt8} (h : isDig c = false) (h2 : c ≠ 45) (h3 : c ≠ 47) : c ∉ ratL r := by
 unfold ratL
 simp only [List.mem_append, List.mem_cons, not_or]
 exact ⟨itoa_no h h2, h3, itoa_no h h2⟩
theorem ratL_cut (r : Int × Int) : cutR 47 (ratL r) = (Lib.itoa r.1, Lib.itoa r.2, true) := cutR_hit _ (itoa_no (by decide) (by decide))
theorem ratL_spl (r : Int × Int) : spl (ratL r) 47 = [itoaB r.1, itoaB r.2] := by
 have := spl_eq (c := 47) [Lib.itoa r.1] (Lib.itoa r.2) (fun p hp => by rw [List.mem_singleton.1 hp]; exact itoa_no (by decide) (by decide)) (itoa_no (by decide) (by decide))
 exact this
theorem raParse_k1_some (s : ByteArray) (xs : List ByteArray) (k : Int) (hx : xs.length = 2) (hs : ∀ x ∈ xs, x.size ≤ 1048576) : ∃ r, spec_raParse_k1 s (xs, k) = some r := by
 match xs, hx with
 | [x, y], _ =>
  have hx1 : x.data.toList.length ≤ 1048576 := by have := hs x (by simp); rwa [Array.length_toList]
  have hy1 : y.data.toList.length ≤ 1048576 := by have := hs y (by simp); rwa [Array.length_toList]
  obtain ⟨a, ha⟩ := spec_raRead_some _ hx1
  obtain ⟨b, hb⟩ := spec_raRead_some _ hy1
  rw [mkB_l] at ha hb
  unfold spec_raParse_k1
  have i0 : idxO [x, y] 0 = some x := rfl
  have i1 : idxO [x, y] 1 = some y := rfl
  simp only [i0, i1, Option.bind_some, ha, hb, spec_raGood_eq]
  cases hg : isRat (w64 (k * a), b)
  ·exact ⟨_, rfl⟩
  ·obtain ⟨e, _, _⟩ := both_ratText hg
   simp only [Bool.not_true, Bool.false_eq_true, if_false, e, Option.bind_some]
   split <;> exact ⟨_, rfl⟩
theorem spec_raParse_some (s : ByteArray) (h : s.size ≤ 1048576) : ∃ r, spec_raParse s = some r := by
 have hl : s.data.toList.length ≤ 1048576 := by rwa [Array.length_toList]
 have e := spec_l1Split_eq s.data.toList 47 hl
 rw [mkB_l, show ((47 : UInt8).toNat : Int) = 47 from rfl] at e
 have hz := spl_size s.data.toList 47
 generalize spl s.data.toList 47 = v at e hz
 unfold spec_raParse
 rw [e, Option.bind_some]
 by_cases h1 : (s.size : Int) > 22
 ·rw [if_pos (decide_eq_true h1)]; exact ⟨_, rfl⟩
 ·rw [if_neg (by simpa using h1)]
  by_cases h2 : v.length = 2
  ·match v, h2, hz with
   | [x, y], _, hz =>
    have hx : x.data.toList.length ≤ 1048576 := Nat.le_trans (by rw [Array.length_toList]; exact Nat.le_refl _) (Nat.le_trans (hz x (by simp)) hl)
    have i0 : idxO [x, y] 0 = some x := rfl
    simp only [i0, Option.bind_some]
    by_cases h3 : x.size = 0
    ·simp only [h3]; exact ⟨_, rfl⟩
    ·have g3 : ((x.size : Int) == 0) = false := by rw [beq_eq_false_iff_ne]; omega
     simp only [List.length_cons, List.length_nil, g3]
     have zs : ∀ z ∈ ([x, y] : List ByteArray), z.size ≤ 1048576 := fun z hz2 => Nat.le_trans (hz z hz2) hl
     show ∃ r, ((guardO ((0 : Int) ≤ 0 ∧ 0 < (x.size : Int))).bind fun u15 => if ((strAt x 0) == 45) = true then (guardO ((0 : Int) ≤ 1 ∧ 1 ≤ (x.size : Int))).bind fun u17 => spec_raParse_k1 s (([x, y].set (Int.toNat 0) (strCut x 1 (x.size : Int))), (-1)) else spec_raParse_k1 s ([x, y], 1)) = some r
     rw [guardO_bind_pos ⟨by omega, by omega⟩]
     split
     ·rw [guardO_bind_pos ⟨by omega, by omega⟩]
      refine raParse_k1_some s _ _ rfl fun z hz2 => ?_
      rcases List.mem_cons.1 hz2 with rfl | hz2
      ·have t := cut1_size x
       have := zs x (by simp)
       omega
      ·exact zs z (by simp at hz2; simp [hz2])
     ·exact raParse_k1_some s _ _ rfl zs
  ·have : ((v.length : Int) != 2) = true := by simp; omega
   simp only [this, if_true]
   exact ⟨_, rfl⟩
theorem spec_raParse_rat {r : Int × Int} (h : isRat r = true) : spec_raParse (ratB r) = some (r, true) := by
 obtain ⟨r1, r2, r3, r4, _⟩ := isRat_iff.1 h
 obtain ⟨n1, n2⟩ := ratL_len h
 have e : spec_l1Split (ratB r) 47 = some [itoaB r.1, itoaB r.2] := by
  rw [ratB_eq, ← ratL_spl]
  exact spec_l1Split_eq (ratL r) 47 (by omega)
 have hsz : (ratB r).size = (ratL r).length := by rw [ratB_eq, mkB_size]
 have i1s : (itoaB r.1).size = (Lib.itoa r.1).length := mkB_size _
 have l1 := itoa_len (n := r.1) (by omega) (by omega)
 have d2 : spec_raRead (itoaB r.2) = some r.2 := by
  have := spec_raRead_dec (n := r.2.toNat) (by omega)
  unfold itoaB Lib.itoa
  rw [if_neg (by omega)]
  rw [show (r.2.toNat : Int) = r.2 by omega] at this
  exact this
 have k1 : ∀ (x : ByteArray) (k a : Int), spec_raRead x = some a → k * a = r.1 → spec_raParse_k1 (ratB r) ([x, itoaB r.2], k) = some (r, true) := fun x k a hx hk => by
  unfold spec_raParse_k1
  have i0 : idxO [x, itoaB r.2] 0 = some x := rfl
  have i1 : idxO [x, itoaB r.2] 1 = some (itoaB r.2) := rfl
  have hw : w64 (k * a) = r.1 := by rw [hk]; exact w64_id (by omega) (by omega)
  have hr : (r.1, r.2) = r := rfl
  obtain ⟨e, _, _⟩ := both_ratText h
  simp only [i0, i1, Option.bind_some, hx, d2, hw, hr, spec_raGood_eq, h, Bool.not_true, Bool.false_eq_true, if_false, e, beq_self_eq_true]
 unfold spec_raParse
 rw [e, Option.bind_some, if_neg (by rw [hsz]; simp; omega)]
 have i0 : idxO [itoaB r.1, itoaB r.2] 0 = some (itoaB r.1) := rfl
 have g3 : (((itoaB r.1).size : Int) == 0) = false := by rw [beq_eq_false_iff_ne]; omega
 simp only [i0, Option.bind_some, List.length_cons, List.length_nil, g3]
 show ((guardO ((0 : Int) ≤ 0 ∧ 0 < ((itoaB r.1).size : Int))).bind fun u15 => if ((strAt (itoaB r.1) 0) == 45) = true then (guardO ((0 : Int) ≤ 1 ∧ 1 ≤ ((itoaB r.1).size : Int))).bind fun u17 => spec_raParse_k1 (ratB r) (([itoaB r.1, itoaB r.2].set (Int.toNat 0) (strCut (itoaB r.1) 1 ((itoaB r.1).size : Int))), (-1)) else spec_raParse_k1 (ratB r) ([itoaB r.1, itoaB r.2], 1)) = some (r, true)
 rw [guardO_bind_pos ⟨by omega, by omega⟩]
 by_cases hn : r.1 < 0
 ·have hi : itoaB r.1 = mkB (45 :: Lib.decDigits r.1.natAbs) := by unfold itoaB Lib.itoa; rw [if_pos hn]; rfl
  have h0 : strAt (itoaB r.1) 0 = 45 := by rw [hi]; exact strAt_mk (l := 45 :: Lib.decDigits r.1.natAbs) (i := 0) (by simp)
  have hc : strCut (itoaB r.1) 1 ((itoaB r.1).size : Int) = mkB (Lib.decDigits r.1.natAbs) := by
   rw [hi, mkB_size]
   have := strCut_mk (45 :: Lib.decDigits r.1.natAbs) 1 (45 :: Lib.decDigits r.1.natAbs).length (by simp)
   rw [List.take_length] at this
   exact this
  rw [h0, if_pos (show ((45 : Int) == 45) = true from rfl), guardO_bind_pos ⟨by omega, by omega⟩, hc]
  exact k1 _ _ _ (spec_raRead_dec (by omega)) (by omega)
 ·have hi : itoaB r.1 = mkB (Lib.decDigits r.1.toNat) := by unfold itoaB Lib.itoa; rw [if_neg hn]; rfl
  have hne := (dec_digs r.1.toNat)
  have h0 : strAt (itoaB r.1) 0 ≠ 45 := by
   rw [hi]
   have hl : 0 < (Lib.decDigits r.1.toNat).length := (dec_len10 (n := r.1.toNat) (by omega)).1
   have := isDig_iff.1 (List.all_eq_true.1 hne.1 _ (List.getElem_mem hl))
   have e0 : strAt (mkB (Lib.decDigits r.1.toNat)) 0 = ((Lib.decDigits r.1.toNat)[0].toNat : Int) := strAt_mk (i := 0) hl
   rw [e0]; omega
  rw [if_neg (by simpa using h0)]
  have d1 : spec_raRead (itoaB r.1) = some r.1 := by
   have := spec_raRead_dec (n := r.1.toNat) (by omega)
   rw [show (r.1.toNat : Int) = r.1 by omega] at this
   rw [hi]; exact this
  exact k1 _ _ _ d1 (by omega)
theorem impl_ParseRat_some (s : ByteArray) (h : s.size ≤ 1048576) : ∃ r, impl_ParseRat s = some r ∧ (r.2 = true → isRat r.1 = true ∧ ratB r.1 = s) := by
 have hc := strings_Cut_eq s 47 h
 have hl : s.data.toList.length ≤ 1048576 := by rwa [Array.length_toList]
 have cl := cutR_len 47 s.data.toList
 generalize cutR 47 s.data.toList = c at hc cl
 unfold impl_ParseRat
 rw [show (ByteArray.mk #[47]) = mkB [47] from rfl, hc]
 simp only [Option.bind_some, strconv_Atoi]
 rw [guardO_bind_pos (by rw [mkB_size]; omega), guardO_bind_pos (by rw [mkB_size]; omega)]
 simp only [Option.bind_some, impl_isRat_eq]
 cases c.2.2
 ·exact ⟨_, rfl, fun h => by cases h⟩
 ·cases (atoiV (mkB c.1)).2
  ·exact ⟨_, rfl, fun h => by cases h⟩
  ·cases (atoiV (mkB c.2.1)).2
   ·exact ⟨_, rfl, fun h => by cases h⟩
   ·cases hr : isRat ((atoiV (mkB c.1)).1, (atoiV (mkB c.2.1)).1)
    ·exact ⟨_, rfl, fun h => by cases h⟩
    ·obtain ⟨_, e, _⟩ := both_ratText hr
     simp only [Bool.not_true, Bool.false_eq_true, if_false, e, Option.bind_some, mkB_beq]
     by_cases hq : ratB ((atoiV (mkB c.1)).1, (atoiV (mkB c.2.1)).1) = s
     ·simp only [hq, decide_true, Bool.not_true, Bool.false_eq_true, if_false]
      exact ⟨_, rfl, fun _ => ⟨hr, hq⟩⟩
     ·simp only [hq, decide_false, Bool.not_false, if_true]
      exact ⟨_, rfl, fun h => by cases h⟩
theorem impl_ParseRat_rat {r : Int × Int} (h : isRat r = true) : impl_ParseRat (ratB r) = some (r, true) := by
 obtain ⟨r1, r2, r3, r4, _⟩ := isRat_iff.1 h
 obtain ⟨n1, n2⟩ := ratL_len h
 have hc := strings_Cut_eq (ratB r) 47 (by rw [ratB_eq, mkB_size]; omega)
 rw [show (ratB r).data.toList = ratL r by rw [ratB_eq, mkB_data], ratL_cut] at hc
 have l1 := itoa_len (n := r.1) (by omega) (by omega)
 have l2 := itoa_len (n := r.2) (by omega) (by omega)
 have a1 : atoiV (mkB (Lib.itoa r.1)) = (r.1, true) := atoi_itoa (by omega) (by omega)
 have a2 : atoiV (mkB (Lib.itoa r.2)) = (r.2, true) := atoi_itoa (by omega) (by omega)
 have hr : (r.1, r.2) = r := rfl
 obtain ⟨_, e, _⟩ := both_ratText h
 unfold impl_ParseRat
 rw [show (ByteArray.mk #[47]) = mkB [47] from rfl, hc]
 simp only [Option.bind_some, strconv_Atoi]
 rw [guardO_bind_pos (by rw [mkB_size]; omega), guardO_bind_pos (by rw [mkB_size]; omega)]
 simp only [a1, a2, hr, impl_isRat_eq, h, Option.bind_some, Bool.not_true, Bool.false_eq_true, if_false, e, beq_self_eq_true]
end Go.PV

/-
 Plain laws: FnExactParseLift.
 Conditions: none.
-/
set_option linter.all false
set_option maxRecDepth 100000
namespace Go.PV
def ptL (q : Pt) : List UInt8 := ratL q.1 ++ 32 :: ratL q.2
def txtL (f : List Pt) : List UInt8 := glue 59 (f.map ptL) []
theorem ptL_no {q : Pt} : (59 : UInt8) ∉ ptL q := by
 unfold ptL
 simp only [List.mem_append, List.mem_cons, not_or]
 exact ⟨ratL_no (by decide) (by decide) (by decide), by decide, ratL_no (by decide) (by decide) (by decide)⟩
theorem ptB_eq (q : Pt) : ptB q = mkB (ptL q ++ [59]) := by
 unfold ptB ptL
 rw [ratB_eq, ratB_eq, mkB_app, show (32 :: ratL q.2) = [32] ++ ratL q.2 from rfl, ← List.append_assoc, mkB_app, mkB_app]
 rfl
theorem txtB_eq : ∀ f : List Pt, txtB f = mkB (txtL f)
 | [] => rfl
 | q :: f => by
  show ptB q ++ txtB f = mkB (ptL q ++ 59 :: txtL f)
  rw [txtB_eq f, ptB_eq, show ptL q ++ 59 :: txtL f = (ptL q ++ [59]) ++ txtL f by simp, mkB_app (ptL q ++ [59])]
theorem ptL_spl (q : Pt) : spl (ptL q) 32 = [ratB q.1, ratB q.2] := by
 have := spl_eq (c := 32) [ratL q.1] (ratL q.2) (fun p hp => by rw [List.mem_singleton.1 hp]; exact ratL_no (by decide) (by decide) (by decide)) (ratL_no (by decide) (by decide) (by decide))
 rw [ratB_eq, ratB_eq]
 exact this
theorem txtL_spl (f : List Pt) : spl (txtL f) 59 = f.map (fun q => mkB (ptL q)) ++ [mkB []] := by
 have := spl_eq (c := 59) (f.map ptL) [] (fun p hp => by obtain ⟨q, _, rfl⟩ := List.mem_map.1 hp; exact ptL_no) (by simp)
 rw [List.map_map] at this
 exact this
theorem ptL_len {q : Pt} (h : ratP q = true) : (ptL q).length ≤ 45 ∧ 1 ≤ (ptL q).length := by
 simp only [ratP, Bool.and_eq_true] at h
 have a := ratL_len h.1
 have b := ratL_len h.2
 unfold ptL
 rw [List.length_append, List.length_cons]
 omega
def GoodR (s : ByteArray) (r : List Pt × Bool) : Prop := (r.2 = true ∧ isLift r.1 = true ∧ txtB r.1 = s) ∨ r = ([], false)
theorem spec_k1_some (s : ByteArray) (f : List Pt) (h : f.length ≤ 1048576) : ∃ r, spec_ParseLift_k1 s f = some r ∧ GoodR s r := by
 obtain ⟨e1, _⟩ := both_isLift f (by omega)
 unfold spec_ParseLift_k1 spec_liIf
 rw [e1, Option.bind_some]
 cases hf : isLift f
 ·exact ⟨_, rfl, .inr rfl⟩
 ·obtain ⟨h1, h2, h3⟩ := isLift_pts hf
  simp only [Bool.not_true, Bool.false_eq_true, if_false, Option.bind_some, spec_imText_eq h1 h2, mkB_beq]
  by_cases hq : txtB f = s
  ·simp only [hq, decide_true, Bool.not_true, Bool.false_eq_true, if_false]
   exact ⟨_, rfl, .inl ⟨rfl, hf, hq⟩⟩
  ·simp only [hq, decide_false, Bool.not_false, if_true]
   exact ⟨_, rfl, .inr rfl⟩
theorem spec_k1_lift {f : List Pt} (hf : isLift f = true) : spec_ParseLift_k1 (txtB f) f = some (f, true) := by
 obtain ⟨h1, h2, h3⟩ := isLift_pts hf
 obtain ⟨e1, _⟩ := both_isLift f (by omega)
 unfold spec_ParseLift_k1 spec_liIf
 rw [e1, Option.bind_some, hf]
 simp only [Bool.not_true, Bool.false_eq_true, if_false, Option.bind_some, spec_imText_eq h1 h2, beq_self_eq_true]
theorem spec_ParseLift_some (s : ByteArray) (h : s.size ≤ 1048576) : ∃ r, spec_ParseLift s = some r ∧ GoodR s r := by
 have hl : s.data.toList.length ≤ 1048576 := by rwa [Array.length_toList]
 have e := spec_l1Split_eq s.data.toList 59 hl
 rw [mkB_l, show ((59 : UInt8).toNat : Int) = 59 from rfl] at e
 have hz := spl_size s.data.toList 59
 have hn := spl_len s.data.toList 59
 generalize spl s.data.toList 59 = v at e hz hn
 unfold spec_ParseLift
 rw [e, Option.bind_some]
 by_cases h1 : (v.length : Int) > 13
 ·rw [if_pos (decide_eq_true h1)]; exact ⟨_, rfl, .inr rfl⟩
 ·rw [if_neg (by simpa using h1)]
  have hw : w64 ((v.length : Int) - 1) = ((v.length - 1 : Nat) : Int) := by rw [w64_id (by omega) (by omega)]; omega
  rw [hw, guardO_bind_pos ⟨by omega, by omega⟩]
  obtain ⟨y, hy, hR⟩ := loop_run (body := spec_ParseLift_b1 v) (fun x => ∃ i : Nat, x.2 = i ∧ i ≤ v.length - 1 ∧ x.1.length = i) (fun x => v.length - x.2.toNat) (fun y => match y with | .inl r => r = ([], false) | .inr f => f.length ≤ 13) (fun x hx => by
   obtain ⟨x1, x2⟩ := x
   obtain ⟨i, hi, hil, hx1⟩ := hx
   simp only at hi hx1
   subst hi
   unfold spec_ParseLift_b1
   simp only [hw, Int.toNat_natCast]
   have htl : (v.take (v.length - 1)).length = v.length - 1 := by rw [List.length_take]; omega
   by_cases hlt : i < v.length - 1
   ·rw [if_pos (by rw [htl]; simpa using hlt), idxO_lt (by rw [htl]; exact hlt), Option.bind_some]
    have hp : ∃ p, p ∈ v ∧ (v.take (v.length - 1))[i]'(by rw [htl]; exact hlt) = p := ⟨_, List.mem_of_mem_take (List.getElem_mem _), rfl⟩
    obtain ⟨p, hpv, hpe⟩ := hp
    rw [hpe]
    have hps := hz p hpv
    have hpl : p.data.toList.length ≤ 1048576 := Nat.le_trans (by rw [Array.length_toList]; exact Nat.le_refl _) (Nat.le_trans hps hl)
    have e2 := spec_l1Split_eq p.data.toList 32 hpl
    rw [mkB_l, show ((32 : UInt8).toNat : Int) = 32 from rfl] at e2
    have hz2 := spl_size p.data.toList 32
    generalize spl p.data.toList 32 = v2 at e2 hz2
    rw [e2, Option.bind_some]
    by_cases h2 : v2.length = 2
    ·match v2, h2, hz2 with
     | [a, b], _, hz2 =>
      obtain ⟨ra, ha⟩ := spec_raParse_some a (Nat.le_trans (hz2 a (by simp)) hpl)
      obtain ⟨rb, hb⟩ := spec_raParse_some b (Nat.le_trans (hz2 b (by simp)) hpl)
      have i0 : idxO [a, b] 0 = some a := rfl
      have i1 : idxO [a, b] 1 = some b := rfl
      have g : ((([a, b] : List ByteArray).length : Int) != 2) = false := rfl
      simp only [g, Bool.false_eq_true, if_false, i0, i1, Option.bind_some, ha, hb]
      split
      ·exact .inr ⟨_, rfl, rfl⟩
      ·rw [guardO_bind_pos (by rw [hx1]; simp; omega)]
       refine .inl ⟨_, rfl, ⟨i + 1, w64_nat (show i < 9223372036854775807 by omega), by omega, by simp [hx1]⟩, ?_⟩
       simp only [w64_nat (show i < 9223372036854775807 by omega)]
       omega
    ·have : ((v2.length : Int) != 2) = true := by simp; omega
     rw [if_pos this]
     exact .inr ⟨_, rfl, rfl⟩
   ·rw [if_neg (by rw [htl]; simp; omega)]
    exact .inr ⟨_, rfl, show x1.length ≤ 13 by omega⟩) ([], 0) ⟨0, rfl, by omega, rfl⟩
  rw [hy, Option.bind_some]
  cases y with
  | inl r => exact ⟨r, rfl, .inr hR⟩
  | inr f => exact spec_k1_some s f (Nat.le_trans hR (by omega))
theorem spec_ParseLift_lift {f : List Pt} (hf : isLift f = true) (hs : (txtL f).length ≤ 1048576) : spec_ParseLift (txtB f) = some (f, true) := by
 obtain ⟨h1, h2, h3⟩ := isLift_pts hf
 have e := spec_l1Split_eq (txtL f) 59 hs
 rw [txtL_spl, ← txtB_eq, show ((59 : UInt8).toNat : Int) = 59 from rfl] at e
 have hlen : (f.map (fun q => mkB (ptL q)) ++ [mkB []]).length = f.length + 1 := by simp
 have hw : w64 (((f.length + 1 : Nat) : Int) - 1) = (f.length : Int) := by rw [w64_id (by omega) (by omega)]; omega
 have ht : (f.map (fun q => mkB (ptL q)) ++ [mkB []]).take f.length = f.map (fun q => mkB (ptL q)) := by
  rw [List.take_append_of_le_length (by simp), List.take_of_length_le (by simp)]
 have hx := loop_idx (body := spec_ParseLift_b1 (f.map (fun q => mkB (ptL q)) ++ [mkB []])) f.length (fun i => (f.take i, (i : Int))) (.inr f) (fun i hi => by
  unfold spec_ParseLift_b1
  simp only [hlen, hw, Int.toNat_natCast, ht]
  have hr := List.all_eq_true.1 h1 _ (List.getElem_mem hi)
  have hp := ptL_len hr
  have hr2 := hr
  simp only [ratP, Bool.and_eq_true] at hr2
  rw [if_pos (by simpa using hi), idxO_lt (by simpa using hi), Option.bind_some, List.getElem_map]
  have e2 := spec_l1Split_eq (ptL f[i]) 32 (by omega)
  rw [ptL_spl, show ((32 : UInt8).toNat : Int) = 32 from rfl] at e2
  rw [e2, Option.bind_some]
  have i0 : idxO [ratB f[i].1, ratB f[i].2] 0 = some (ratB f[i].1) := rfl
  have i1 : idxO [ratB f[i].1, ratB f[i].2] 1 = some (ratB f[i].2) := rfl
  have g : ((([ratB f[i].1, ratB f[i].2] : List ByteArray).length : Int) != 2) = false := rfl
  simp only [g, Bool.false_eq_true, if_false, i0, i1, Option.bind_some, spec_raParse_rat hr2.1, spec_raParse_rat hr2.2, Bool.not_true, Bool.or_self]
  rw [guardO_bind_pos (by rw [List.length_take]; simp; omega), w64_nat (show i < 9223372036854775807 by omega), List.take_succ_eq_append_getElem hi]) (by
  unfold spec_ParseLift_b1
  simp only [hlen, hw, Int.toNat_natCast, ht]
  rw [if_neg (by simp), List.take_length])
 have hx' : loopO (spec_ParseLift_b1 (f.map (fun q => mkB (ptL q)) ++ [mkB []])) ([], 0) = some (.inr f) := hx
 unfold spec_ParseLift
 rw [e, Option.bind_some, hx', hlen, if_neg (by simp; omega), hw, guardO_bind_pos ⟨by omega, by omega⟩, Option.bind_some]
 exact spec_k1_lift hf
theorem impl_readPoints_some (s : ByteArray) (h : s.size ≤ 1048576) : ∃ r, impl_readPoints s = some r ∧ r.1.length ≤ 1048576 ∧ (r.2 = true → txtB r.1 = s) := by
 obtain ⟨y, hy, hR⟩ := loop_run (body := impl_readPoints_b1) (fun x => txtB x.2 ++ x.1 = s ∧ x.2.length + x.1.size ≤ 1048576) (fun x => x.1.size) (fun y => match y with | .inl r => r = ([], false) | .inr f => f.length ≤ 1048576 ∧ txtB f = s) (fun x hx => by
  obtain ⟨t, f⟩ := x
  obtain ⟨hs, hn⟩ := hx
  simp only at hs hn
  unfold impl_readPoints_b1
  simp only [mkB_beq]
  by_cases h0 : t = ByteArray.empty
  ·simp only [h0, decide_true, Bool.not_true, Bool.false_eq_true, if_false]
   refine .inr ⟨_, rfl, ?_⟩
   rw [h0, ByteArray.append_empty] at hs
   exact ⟨by omega, hs⟩
  ·simp only [h0, decide_false, Bool.not_false, if_true]
   have hc := strings_Cut_eq t 59 (by omega)
   have cl := cutR_len 59 t.data.toList
   have htl : t.data.toList.length = t.size := by rw [Array.length_toList]; rfl
   have hct : ∀ a b, cutR 59 t.data.toList = (a, b, true) → t.data.toList = a ++ 59 :: b := fun a b h => cutR_true h
   generalize cutR 59 t.data.toList = c at hc cl hct
   rw [show (ByteArray.mk #[59]) = mkB [59] from rfl, hc]
   simp only [Option.bind_some]
   have hc2 := strings_Cut_eq (mkB c.1) 32 (by rw [mkB_size]; omega)
   have cl2 := cutR_len 32 c.1
   have hct2 : ∀ a b, cutR 32 c.1 = (a, b, true) → c.1 = a ++ 32 :: b := fun a b h => cutR_true h
   rw [mkB_data] at hc2
   generalize cutR 32 c.1 = d at hc2 cl2 hct2
   rw [show (ByteArray.mk #[32]) = mkB [32] from rfl, hc2]
   simp only [Option.bind_some]
   obtain ⟨ra, ha, ga⟩ := impl_ParseRat_some (mkB d.1) (by rw [mkB_size]; omega)
   obtain ⟨rb, hb, gb⟩ := impl_ParseRat_some (mkB d.2.1) (by rw [mkB_size]; omega)
   rw [ha, hb]
   simp only [Option.bind_some]
   split
   ·exact .inr ⟨_, rfl, rfl⟩
   ·rename_i hno
    simp only [Bool.or_eq_true, Bool.not_eq_true', not_or, Bool.not_eq_false] at hno
    obtain ⟨n1, n2, n3, n4⟩ := hno
    have t1 := hct c.1 c.2.1 (by rw [← n1])
    have t2 := hct2 d.1 d.2.1 (by rw [← n2])
    have e1 := (ga n3).2
    have e2 := (gb n4).2
    have tl : t.size = c.1.length + 1 + c.2.1.length := by rw [← htl, t1]; simp; omega
    rw [guardO_bind_pos (by simp; omega)]
    refine .inl ⟨_, rfl, ⟨?_, ?_⟩, ?_⟩
    ·show txtB (f ++ [(ra.1, rb.1)]) ++ mkB c.2.1 = s
     rw [← hs, txtB_app]
     have : txtB [(ra.1, rb.1)] = mkB (c.1 ++ [59]) := by
      show ptB (ra.1, rb.1) ++ ByteArray.empty = _
      rw [ByteArray.append_empty]
      unfold ptB
      simp only
      rw [e1, e2, t2, show (d.1 ++ 32 :: d.2.1 : List UInt8) = (d.1 ++ [32]) ++ d.2.1 by simp, mkB_app, mkB_app, mkB_app]
      rfl
     rw [this, ByteArray.append_assoc, ← mkB_app, show (c.1 ++ [59]) ++ c.2.1 = t.data.toList by rw [t1]; simp, mkB_l]
    ·show (f ++ [(ra.1, rb.1)]).length + (mkB c.2.1).size ≤ 1048576
     rw [List.length_append, mkB_size]; simp; omega
    ·show (mkB c.2.1).size < t.size
     rw [mkB_size]; omega) (s, []) ⟨by show ByteArray.empty ++ s = s; rw [ByteArray.empty_append], by simpa using h⟩
 unfold impl_readPoints
 rw [hy, Option.bind_some]
 cases y with
 | inl r =>
  have hR' : r = ([], false) := hR
  subst hR'
  exact ⟨_, rfl, by simp, fun h => by cases h⟩
 | inr f => exact ⟨_, rfl, hR.1, fun _ => hR.2⟩
theorem txtB_drop (f : List Pt) {i : Nat} (hi : i < f.length) : (txtB (f.drop i)).data.toList = ptL f[i] ++ 59 :: txtL (f.drop (i + 1)) := by
 rw [List.drop_eq_getElem_cons hi, txtB_eq, mkB_data]
 rfl
theorem txtL_drop (f : List Pt) : ∀ i, (txtL (f.drop i)).length ≤ (txtL f).length := by
 induction f with
 | nil => intro i; simp
 | cons q f ih =>
  intro i
  cases i with
  | zero => exact Nat.le_refl _
  | succ i =>
   have := ih i
   have e : (txtL (q :: f)).length = (ptL q).length + (1 + (txtL f).length) := by
    show (ptL q ++ 59 :: txtL f).length = _
    rw [List.length_append, List.length_cons]; omega
   rw [List.drop_succ_cons, e]; omega
theorem impl_readPoints_txt {f : List Pt} (hr : f.all ratP = true) (hl : f.length ≤ 12) (hs : (txtL f).length ≤ 1048576) : impl_readPoints (txtB f) = some (f, true) := by
 have hx := loop_idx (body := impl_readPoints_b1) f.length (fun i => (txtB (f.drop i), f.take i)) (.inr f) (fun i hi => by
  have hq := List.all_eq_true.1 hr _ (List.getElem_mem hi)
  have hp := ptL_len hq
  have hq2 := hq
  simp only [ratP, Bool.and_eq_true] at hq2
  have hd := txtL_drop f i
  have hsz : (txtB (f.drop i)).size = (txtL (f.drop i)).length := by rw [txtB_eq, mkB_size]
  have hc := strings_Cut_eq (txtB (f.drop i)) 59 (by omega)
  rw [txtB_drop f hi, cutR_hit _ ptL_no] at hc
  have hc2 := strings_Cut_eq (mkB (ptL f[i])) 32 (by rw [mkB_size]; omega)
  rw [mkB_data, show cutR 32 (ptL f[i]) = (ratL f[i].1, ratL f[i].2, true) from cutR_hit _ (ratL_no (by decide) (by decide) (by decide))] at hc2
  have hne : ¬ txtB (f.drop i) = ByteArray.empty := fun h => by
   have h2 := txtB_drop f hi
   rw [h] at h2
   have := congrArg List.length h2
   simp at this
  unfold impl_readPoints_b1
  simp only [mkB_beq, hne, decide_false, Bool.not_false, if_true]
  rw [show (ByteArray.mk #[59]) = mkB [59] from rfl, hc]
  simp only [Option.bind_some]
  rw [show (ByteArray.mk #[32]) = mkB [32] from rfl, hc2]
  simp only [Option.bind_some, ← ratB_eq, impl_ParseRat_rat hq2.1, impl_ParseRat_rat hq2.2, Bool.not_true, Bool.or_self, Bool.false_eq_true, if_false]
  rw [guardO_bind_pos (by rw [List.length_take]; simp; omega), ← txtB_eq, List.take_succ_eq_append_getElem hi]) (by
  unfold impl_readPoints_b1
  rw [List.drop_length]
  simp only [mkB_beq, show txtB [] = ByteArray.empty from rfl, decide_true, Bool.not_true, Bool.false_eq_true, if_false, List.take_length])
 have hx' : loopO impl_readPoints_b1 (txtB f, []) = some (.inr f) := hx
 unfold impl_readPoints
 rw [hx']
 rfl
theorem impl_ParseLift_some (s : ByteArray) (h : s.size ≤ 1048576) : ∃ r, impl_ParseLift s = some r ∧ GoodR s r := by
 obtain ⟨⟨f, b⟩, e, hl, hg⟩ := impl_readPoints_some s h
 simp only at hl hg
 obtain ⟨_, e1⟩ := both_isLift f (by omega)
 unfold impl_ParseLift
 rw [e, Option.bind_some]
 cases b
 ·exact ⟨_, rfl, .inr rfl⟩
 ·simp only [Bool.not_true, Bool.false_eq_true, if_false, e1, Option.bind_some]
  cases hf : isLift f
  ·exact ⟨_, rfl, .inr rfl⟩
  ·exact ⟨_, rfl, .inl ⟨rfl, hf, hg rfl⟩⟩
theorem impl_ParseLift_lift {f : List Pt} (hf : isLift f = true) (hs : (txtL f).length ≤ 1048576) : impl_ParseLift (txtB f) = some (f, true) := by
 obtain ⟨h1, h2, h3⟩ := isLift_pts hf
 obtain ⟨_, e1⟩ := both_isLift f (by omega)
 unfold impl_ParseLift
 rw [impl_readPoints_txt h1 h2 hs]
 simp only [Option.bind_some, Bool.not_true, Bool.false_eq_true, if_false, e1, hf]
theorem both_ParseLift (s : ByteArray) (h : s.size ≤ 1048576) : ∃ r : List Pt × Bool, spec_ParseLift s = some r ∧ impl_ParseLift s = some r ∧ r.1.length ≤ 12 := by
 obtain ⟨r1, e1, g1⟩ := spec_ParseLift_some s h
 obtain ⟨r2, e2, g2⟩ := impl_ParseLift_some s h
 have key : ∀ f, isLift f = true → txtB f = s → (txtL f).length ≤ 1048576 := fun f _ hs => by rw [← mkB_size, ← txtB_eq, hs]; exact h
 rcases g1 with ⟨a, b, c⟩ | g1
 ·have := impl_ParseLift_lift b (key _ b c)
  rw [c] at this
  refine ⟨r1, e1, ?_, (isLift_pts b).2.1⟩
  rw [this, ← a]
 ·rcases g2 with ⟨a, b, c⟩ | g2
  ·have := spec_ParseLift_lift b (key _ b c)
   rw [c] at this
   refine ⟨r2, ?_, e2, (isLift_pts b).2.1⟩
   rw [this, ← a]
  ·exact ⟨r1, e1, by rw [e2, g2, g1], by rw [g1]; simp⟩
theorem laws_FnExactParseLift_eq (s : ByteArray) : laws_FnExactParseLift s = some true := by
 unfold laws_FnExactParseLift
 by_cases h : (s.size : Int) > 1048576
 ·rw [if_pos (decide_eq_true h)]
 ·obtain ⟨r, e1, e2, hl⟩ := both_ParseLift s (by omega)
  rw [if_neg (by simpa using h), e1, e2]
  have e8 : ¬ ((1 : Int) + 4 * (r.1.length : Int) < 0) := by omega
  simp only [Option.bind_some, laws_eqLift_self r.1 (by omega), laws_markLift_eq r.1 1 (by omega) (by omega), laws_heldLift_eq r.1.length 1 (by omega) (by omega), beq_self_eq_true, Bool.not_true, Bool.or_self, bne_self_eq_false, e8, decide_false, Bool.false_eq_true, if_false]
end Go.PV
