/-
  Plain laws of what the functions answer.
  Conditions: none.
-/
import Derived.Test.YtlajjggemadajaaPvCx
import Derived.Test.YtlajjggemadajaaDf
set_option linter.all false
/-
 Plain laws: bounds, lists of numbers, vectors.
 Conditions: none.
-/
namespace Go.PV
def inB (a b n : Int) : Bool := decide (a ≤ n) && decide (n ≤ b)
theorem inB_iff {a b n : Int} : inB a b n = true ↔ a ≤ n ∧ n ≤ b := by simp [inB]
theorem spec_l1In_eq (v a b : Int) : spec_l1In v a b = some (inB a b v) := rfl
theorem impl_within_eq (v a b : Int) : impl_within v a b = some (inB a b v) := rfl
def isVec (xs : List Int) : Bool := inB 1 8 xs.length && xs.all (inB 1 1000000)
theorem set_at {α : Type} (xs ys : List α) (i : Nat) (x : α) (hi : xs[i]? = some x) (hl : i < ys.length) : (xs.take i ++ ys.drop i).set i x = xs.take (i + 1) ++ ys.drop (i + 1) := by
 have h1 := getElem?_lt hi
 apply List.ext_getElem?
 intro j
 rw [List.getElem?_set]
 by_cases hj : i = j
 ·subst hj
  have hlen : i < (xs.take i ++ ys.drop i).length := by simp; omega
  rw [if_pos rfl, if_pos hlen, List.getElem?_append_left (by simp; omega), List.getElem?_take_of_lt (by omega), hi]
 ·rw [if_neg hj, List.getElem?_append, List.getElem?_append]
  simp only [List.length_take, List.getElem?_take, List.getElem?_drop]
  by_cases h2 : j < i
  ·simp [show j < i + 1 by omega, h2, show min i xs.length = i by omega, show min (i + 1) xs.length = i + 1 by omega]
  ·have h3 : ¬ j < i + 1 := by omega
   simp [h3, h2, show min i xs.length = i by omega, show min (i + 1) xs.length = i + 1 by omega]
   congr 1
   omega
end Go.PV

/-
 Plain laws: greatest divisors, fractions, floors, fractions reduced.
 Conditions: none.
-/
namespace Go.PV
theorem toNat_gcd_step (a b : Nat) (hb : b ≠ 0) : Nat.gcd b (a % b) = Nat.gcd a b := by
 rw [Nat.gcd_comm a b, Nat.gcd_rec b a, Nat.gcd_comm]
theorem impl_gcd_loop (b : Nat) : ∀ a : Nat, loopO impl_greatestDivisor_b1 ((a : Int), (b : Int)) = some ((Nat.gcd a b : Nat) : Int) := by
 induction b using Nat.strongRecOn with
 | ind b ih =>
  intro a
  rw [loopO_eq]
  by_cases hb : b = 0
  ·subst hb; simp [impl_greatestDivisor_b1]
  ·have hb' : ((b : Int) != 0) = true := by simp; omega
   simp only [impl_greatestDivisor_b1, hb', if_true, guardO_bind_pos (show (b : Int) ≠ 0 by omega)]
   have : Int.tmod (a : Int) (b : Int) = ((a % b : Nat) : Int) := rfl
   rw [this, ih (a % b) (Nat.mod_lt _ (by omega)) b, toNat_gcd_step a b hb]
theorem spec_gcd_loop (b : Nat) : ∀ a : Nat, loopO spec_raCommon_b1 ((a : Int), (b : Int)) = some ((Nat.gcd a b : Nat) : Int) := by
 induction b using Nat.strongRecOn with
 | ind b ih =>
  intro a
  rw [loopO_eq]
  by_cases hb : b = 0
  ·subst hb; simp [spec_raCommon_b1]
  ·have hb' : decide ((b : Int) > 0) = true := by simp; omega
   simp only [spec_raCommon_b1, hb', if_true, guardO_bind_pos (show (b : Int) ≠ 0 by omega)]
   have : Int.tmod (a : Int) (b : Int) = ((a % b : Nat) : Int) := rfl
   rw [this, ih (a % b) (Nat.mod_lt _ (by omega)) b, toNat_gcd_step a b hb]
theorem impl_abs_eq (a : Int) (h : -9223372036854775808 < a) (h2 : a ≤ 9223372036854775807) : impl_abs a = some (a.natAbs : Int) := by
 unfold impl_abs
 by_cases ha : a < 0
 ·simp only [ha, decide_true, if_true]; rw [w64_id (by omega) (by omega)]; congr 1; omega
 ·simp only [ha, decide_false, Bool.false_eq_true, if_false]; congr 1; omega
theorem spec_l1Abs_eq (a : Int) (h : -9223372036854775808 < a) (h2 : a ≤ 9223372036854775807) : spec_l1Abs a = some (a.natAbs : Int) := by
 unfold spec_l1Abs spec_l1Most
 rw [w64_id (by omega) (by omega)]
 by_cases ha : a > 0 - a
 ·simp only [ha, decide_true, if_true, Option.bind_some]; congr 1; omega
 ·simp only [ha, decide_false, Bool.false_eq_true, if_false, Option.bind_some]; congr 1; omega
theorem impl_greatestDivisor_eq (a b : Int) (h : -9223372036854775808 < a) (h2 : a ≤ 9223372036854775807) (h3 : -9223372036854775808 < b) (h4 : b ≤ 9223372036854775807) :
  impl_greatestDivisor a b = some ((Int.gcd a b : Nat) : Int) := by
 simp only [impl_greatestDivisor, impl_abs_eq a h h2, impl_abs_eq b h3 h4, Option.bind_some, impl_gcd_loop, impl_greatestDivisor_k1]
 rfl
theorem spec_raCommon_eq (a b : Int) (h : 0 ≤ a) (h2 : 0 ≤ b) : spec_raCommon a b = some ((Int.gcd a b : Nat) : Int) := by
 obtain ⟨m, rfl⟩ := Int.eq_ofNat_of_zero_le h
 obtain ⟨n, rfl⟩ := Int.eq_ofNat_of_zero_le h2
 simp only [spec_raCommon]
 rw [spec_gcd_loop]
 rfl
def isRat (r : Int × Int) : Bool := inB 1 1000000000 r.2 && (inB (-1000000000) 1000000000 r.1 && (Int.gcd r.1 r.2 : Int) == 1)
theorem isRat_iff {r : Int × Int} : isRat r = true ↔ 1 ≤ r.2 ∧ r.2 ≤ 1000000000 ∧ -1000000000 ≤ r.1 ∧ r.1 ≤ 1000000000 ∧ Int.gcd r.1 r.2 = 1 := by
 simp only [isRat, Bool.and_eq_true, inB_iff, beq_iff_eq]
 constructor
 ·rintro ⟨⟨h1, h2⟩, ⟨h3, h4⟩, h5⟩; exact ⟨h1, h2, h3, h4, by omega⟩
 ·rintro ⟨h1, h2, h3, h4, h5⟩; exact ⟨⟨h1, h2⟩, ⟨h3, h4⟩, by omega⟩
theorem impl_isRat_eq (r : Int × Int) : impl_isRat r = some (isRat r) := by
 unfold impl_isRat isRat
 simp only [impl_within_eq, Option.bind_some]
 cases h1 : inB 1 1000000000 r.2
 ·rfl
 ·cases h2 : inB (-1000000000) 1000000000 r.1
  ·rfl
  ·have h1' := inB_iff.1 h1
   have h2' := inB_iff.1 h2
   simp only [if_true, impl_greatestDivisor_eq r.1 r.2 (by omega) (by omega) (by omega) (by omega), Option.bind_some, Bool.true_and]
theorem spec_raGood_eq (r : Int × Int) : spec_raGood r = some (isRat r) := by
 unfold spec_raGood isRat
 simp only [spec_l1In_eq, Option.bind_some]
 cases h1 : inB 1 1000000000 r.2
 ·rfl
 ·cases h2 : inB (-1000000000) 1000000000 r.1
  ·rfl
  ·have h1' := inB_iff.1 h1
   have h2' := inB_iff.1 h2
   simp only [if_true, spec_l1Abs_eq r.1 (by omega) (by omega), spec_raCommon_eq _ r.2 (Int.natCast_nonneg _) (by omega), Option.bind_some, Bool.true_and]
   rfl
def lowest (n d : Int) : (Int × Int) × Bool :=
 let g := if d < 0 then -(Int.gcd n d : Int) else Int.gcd n d
 if isRat (Int.tdiv n g, Int.tdiv d g) then ((Int.tdiv n g, Int.tdiv d g), true) else ((0, 0), false)
theorem mul_le_9 {a b : Int} (ha : -1000000000 ≤ a) (ha2 : a ≤ 1000000000) (hb : -1000000000 ≤ b) (hb2 : b ≤ 1000000000) : -1000000000000000000 ≤ a * b ∧ a * b ≤ 1000000000000000000 := by
 have h1 : (a * b).natAbs ≤ 1000000000 * 1000000000 := by
  rw [Int.natAbs_mul]; exact Nat.mul_le_mul (by omega) (by omega)
 omega
def near (r : Int × Int) : Bool := isRat r && inB (-1000 * r.2) (1000 * r.2) r.1
def cmp (a b : Int × Int) : Int := if a.1 * b.2 < b.1 * a.2 then -1 else if a.1 * b.2 > b.1 * a.2 then 1 else 0
def tame (r : Int × Int) : Prop := -1000000000 ≤ r.1 ∧ r.1 ≤ 1000000000 ∧ -1000000000 ≤ r.2 ∧ r.2 ≤ 1000000000
theorem tame_of {r : Int × Int} (h : isRat r = true) : tame r := by
 obtain ⟨h1, h2, h3, h4, _⟩ := isRat_iff.1 h
 exact ⟨h3, h4, by omega, h2⟩
theorem impl_compare_eq (a b : Int × Int) (ha : tame a) (hb : tame b) : impl_compare a b = some (cmp a b) := by
 obtain ⟨a1, a2, a3, a4⟩ := ha
 obtain ⟨b1, b2, b3, b4⟩ := hb
 have m1 := mul_le_9 a1 a2 b3 b4
 have m2 := mul_le_9 b1 b2 a3 a4
 unfold impl_compare cmp
 rw [w64_id (n := a.1 * b.2) (by omega) (by omega), w64_id (n := b.1 * a.2) (by omega) (by omega)]
 by_cases h1 : a.1 * b.2 < b.1 * a.2
 ·simp [h1]
 ·by_cases h2 : a.1 * b.2 > b.1 * a.2
  ·simp [h1, h2]
  ·simp [h1, h2]
def less (a b : Int × Int) : Bool := decide (a.1 * b.2 < b.1 * a.2)
theorem impl_less_eq (a b : Int × Int) (ha : tame a) (hb : tame b) : impl_less a b = some (less a b) := by
 unfold impl_less less
 rw [impl_compare_eq a b ha hb]
 unfold cmp
 by_cases h1 : a.1 * b.2 < b.1 * a.2
 ·simp [h1]
 ·by_cases h2 : a.1 * b.2 > b.1 * a.2
  ·simp [h1, h2]
  ·simp [h1, h2]
def floorDiv (n d : Int) : Int := if Int.tmod n d < 0 then Int.tdiv n d - 1 else Int.tdiv n d
theorem tdiv_bound (n d : Int) : (Int.tdiv n d).natAbs ≤ n.natAbs := by rw [Int.natAbs_tdiv]; exact Nat.div_le_self _ _
def reduceRat (r : Int × Int) : (Int × Int) × Bool := if near r then ((r.1 - floorDiv r.1 r.2 * r.2, r.2), true) else ((0, 0), false)
theorem laws_eqRat_self (r : Int × Int) : laws_eqRat r r = some true := by simp [laws_eqRat]
end Go.PV

set_option linter.all false
namespace Go.PV
abbrev Pt := (Int × Int) × (Int × Int)
def zP : Pt := ((0, 0), (0, 0))
theorem slices_IndexFunc_Limpl_Point_impl_Point_eq (xs : List Pt) (f : Pt → Option Bool) (p : Pt → Bool) (hf : ∀ x, f x = some (p x)) (hl : xs.length ≤ 4611686018427387904) :
  slices_IndexFunc_Limpl_Point_impl_Point xs f = some (match xs.findIdx? p with | some i => (i : Int) | none => -1) := by
 have h := loop_first (xs := xs) (body := slices_IndexFunc_Limpl_Point_impl_Point_b1 xs f) p (fun i => (i : Int)) (fun i => .inl (i : Int)) (.inr ()) (fun i x hx => by
  have hi := getElem?_lt hx
  simp only [slices_IndexFunc_Limpl_Point_impl_Point_b1, idxO_nat, hx, hf, Option.bind_some, w64_nat (show i < 9223372036854775807 by omega), show ((i : Int) < (xs.length : Int)) from by omega, decide_true, if_true]
  cases p x <;> rfl) (by simp [slices_IndexFunc_Limpl_Point_impl_Point_b1])
 unfold slices_IndexFunc_Limpl_Point_impl_Point
 rw [show (0 : Int) = ((0 : Nat) : Int) from rfl, h]
 cases xs.findIdx? p <;> rfl
theorem slices_ContainsFunc_Limpl_Point_impl_Point_eq (xs : List Pt) (f : Pt → Option Bool) (p : Pt → Bool) (hf : ∀ x, f x = some (p x)) (hl : xs.length ≤ 4611686018427387904) : slices_ContainsFunc_Limpl_Point_impl_Point xs f = some (xs.any p) := by
 simp only [slices_ContainsFunc_Limpl_Point_impl_Point, slices_IndexFunc_Limpl_Point_impl_Point_eq xs f p hf hl, Option.bind_some]
 cases h : xs.findIdx? p with
 | none =>
  have hn := List.findIdx?_eq_none_iff.1 h
  have : xs.any p = false := by simpa using hn
  simp [this]
 | some m =>
  obtain ⟨hm, hp, _⟩ := List.findIdx?_eq_some_iff_getElem.1 h
  have : xs.any p = true := List.any_eq_true.2 ⟨xs[m], List.getElem_mem hm, hp⟩
  simp [this]
theorem laws_toPoint_eq (p : Pt) : laws_toPoint p = some p := rfl
theorem laws_toPointS_eq (xs : List Pt) (hl : xs.length ≤ 1099511627776) : laws_toPointS xs = some xs := by
 have h := loop_idx (body := laws_toPointS_b1 xs) xs.length (fun i => (xs.take i ++ (List.replicate xs.length zP).drop i, (i : Int))) xs (fun i hi => by
  have hlen : i < (xs.take i ++ (List.replicate xs.length zP).drop i).length := by simp; omega
  simp only [laws_toPointS_b1, idxO_lt hi, idxO_lt hlen, laws_toPoint_eq, Option.bind_some, w64_nat (show i < 9223372036854775807 by omega), show ((i : Int) < (xs.length : Int)) from by omega, decide_true, if_true, Int.toNat_natCast]
  rw [set_at _ _ _ _ (List.getElem?_eq_getElem hi) (by simpa using hi)]) (by simp [laws_toPointS_b1])
 unfold laws_toPointS
 rw [guardO_bind_pos (by omega)]
 simp only [List.take_zero, List.nil_append, List.drop_zero] at h
 rw [Int.toNat_natCast]
 have h' : loopO (laws_toPointS_b1 xs) (List.replicate xs.length ((0, 0), (0, 0)), 0) = some xs := h
 rw [h']
 rfl
theorem laws_eqPoint_self (p : Pt) : laws_eqPoint p p = some true := by simp [laws_eqPoint, laws_eqRat_self]
theorem laws_eqPointS_self (xs : List Pt) (hl : xs.length ≤ 4611686018427387904) : laws_eqPointS xs xs = some true := by
 have h := loop_idx (body := laws_eqPointS_b1 xs xs) xs.length (fun i => (i : Int)) (.inr ()) (fun i hi => by
  simp only [laws_eqPointS_b1, idxO_lt hi, laws_eqPoint_self, Option.bind_some, w64_nat (show i < 9223372036854775807 by omega), show ((i : Int) < (xs.length : Int)) from by omega, decide_true, if_true]
  simp) (by simp [laws_eqPointS_b1])
 unfold laws_eqPointS
 rw [show (0 : Int) = ((0 : Nat) : Int) from rfl, h]
 simp [laws_eqPointS_k1]
theorem laws_szPointS_eq (xs : List Pt) (m : Nat) (hm : m ≤ 4611686018427387904) (hl : xs.length ≤ 9223372036854775807) : laws_szPointS xs (m : Int) = some (if m < xs.length then -1 else (m : Int) - xs.length) := by
 unfold laws_szPointS
 rw [w64_id (by omega) (by omega)]
 by_cases h : m < xs.length
 ·have : (m : Int) - xs.length < 0 := by omega
  simp [this, h]
 ·have : ¬ (m : Int) - xs.length < 0 := by omega
  simp [this, h]
theorem spec_raCmp_eq (a b : Int × Int) (ha : tame a) (hb : tame b) : spec_raCmp a b = some (cmp a b) := by
 obtain ⟨a1, a2, a3, a4⟩ := ha
 obtain ⟨b1, b2, b3, b4⟩ := hb
 have m1 := mul_le_9 a1 a2 b3 b4
 have m2 := mul_le_9 b1 b2 a3 a4
 unfold spec_raCmp spec_l1Sign cmp
 rw [w64_id (n := a.1 * b.2) (by omega) (by omega), w64_id (n := b.1 * a.2) (by omega) (by omega), w64_id (n := a.1 * b.2 - b.1 * a.2) (by omega) (by omega)]
 by_cases h1 : a.1 * b.2 < b.1 * a.2
 ·have : ¬ (a.1 * b.2 - b.1 * a.2 > 0) := by omega
  have h3 : a.1 * b.2 - b.1 * a.2 < 0 := by omega
  simp [h1, h3]; omega
 ·by_cases h2 : a.1 * b.2 > b.1 * a.2
  ·have : a.1 * b.2 - b.1 * a.2 > 0 := by omega
   simp [h1, h2, this]
  ·have h3 : ¬ (a.1 * b.2 - b.1 * a.2 > 0) := by omega
   have h4 : ¬ (a.1 * b.2 - b.1 * a.2 < 0) := by omega
   simp [h1, h2, h3, h4]
theorem cmp_ge (a b : Int × Int) : decide (cmp a b ≥ 0) = !less a b := by
 unfold cmp less
 by_cases h1 : a.1 * b.2 < b.1 * a.2
 ·simp [h1]
 ·by_cases h2 : a.1 * b.2 > b.1 * a.2 <;> simp [h1, h2]
theorem cmp_gt (a b : Int × Int) : decide (cmp a b > 0) = less b a := by
 unfold cmp less
 by_cases h1 : a.1 * b.2 < b.1 * a.2
 ·have : ¬ b.1 * a.2 < a.1 * b.2 := by omega
  simp [h1, this]
 ·by_cases h2 : a.1 * b.2 > b.1 * a.2
  ·simp [h1, h2]
  ·have : ¬ b.1 * a.2 < a.1 * b.2 := by omega
   simp [h1, h2]
theorem cmp_zero (a b : Int × Int) : (cmp a b == 0) = (a.1 * b.2 == b.1 * a.2) := by
 unfold cmp
 by_cases h1 : a.1 * b.2 < b.1 * a.2
 ·have : ¬ a.1 * b.2 = b.1 * a.2 := by omega
  simp [h1, this]
 ·by_cases h2 : a.1 * b.2 > b.1 * a.2
  ·have : ¬ a.1 * b.2 = b.1 * a.2 := by omega
   simp [h1, h2, this]
  ·have : a.1 * b.2 = b.1 * a.2 := by omega
   simp [this]
def isUnit (r : Int × Int) : Bool := isRat r && inB 0 r.2 r.1
def coord (r : Int × Int) : Bool := isUnit r && decide (r.2 ≤ 100)
theorem spec_raUnit_eq (r : Int × Int) : spec_raUnit r = some (isUnit r) := by
 unfold spec_raUnit isUnit
 simp only [spec_raGood_eq, Option.bind_some, spec_l1In_eq]
 cases isRat r <;> simp
theorem impl_isUnit_eq (r : Int × Int) : impl_isUnit r = some (isUnit r) := by
 simp [impl_isUnit, impl_isRat_eq, isUnit, inB]
theorem spec_imCoord_eq (r : Int × Int) : spec_imCoord r = some (coord r) := by simp [spec_imCoord, spec_raUnit_eq, coord]
theorem impl_isCoord_eq (r : Int × Int) : impl_isCoord r = some (coord r) := by simp [impl_isCoord, impl_isUnit_eq, coord]
theorem coord_rat {r : Int × Int} (h : coord r = true) : isRat r = true := by
 simp only [coord, isUnit, Bool.and_eq_true] at h
 exact h.1.1
def goodPt (p : Pt) : Bool := coord p.1 && (isRat p.2 && (decide (p.2.2 ≤ 100) && inB (-5 * p.2.2) (5 * p.2.2) p.2.1))
theorem goodPt_tame {p : Pt} (h : goodPt p = true) : isRat p.1 = true ∧ isRat p.2 = true := by
 simp only [goodPt, Bool.and_eq_true] at h
 exact ⟨coord_rat h.1, h.2.1⟩
theorem impl_isLift_1_eq (p : Pt) : impl_isLift_1 p = some (!goodPt p) := by
 unfold impl_isLift_1 goodPt
 simp only [impl_isCoord_eq, impl_isRat_eq, impl_whole, Option.bind_some]
 cases h1 : coord p.1
 ·simp
 ·cases h : isRat p.2
  ·simp
  ·have ht := tame_of h
   obtain ⟨h2, h3, h4, h5, _⟩ := isRat_iff.1 h
   by_cases h6 : p.2.2 > 100
   ·have : ¬ p.2.2 ≤ 100 := by omega
    simp [h6, this]
   ·have h7 : p.2.2 ≤ 100 := by omega
    simp only [Bool.not_true, Bool.false_eq_true, if_false, h6, h7, decide_false, decide_true, impl_less_eq p.2 (-5, 1) ht ⟨by decide, by decide, by decide, by decide⟩, impl_less_eq (5, 1) p.2 ⟨by decide, by decide, by decide, by decide⟩ ht, Option.bind_some, less, Bool.true_and, inB]
    simp only [Int.mul_one]
    by_cases h8 : p.2.1 < -5 * p.2.2
    ·have : ¬ (-5 * p.2.2 ≤ p.2.1) := by omega
     simp [h8, this]
    ·have h9 : -5 * p.2.2 ≤ p.2.1 := by omega
     by_cases h10 : 5 * p.2.2 < p.2.1
     ·have : ¬ (p.2.1 ≤ 5 * p.2.2) := by omega
      simp [h8, h9, h10, this]
     ·have h11 : p.2.1 ≤ 5 * p.2.2 := by omega
      simp [h8, h9, h10, h11]
def stepPt (a b : Pt) : Bool := less a.1 b.1 && !less b.2 a.2
def steps (xs : List Pt) (n : Nat) : Prop := ∀ i a b, 0 < i → i < n → xs[i - 1]? = some a → xs[i]? = some b → stepPt a b = true
theorem steps_succ {xs : List Pt} {i : Nat} {a b : Pt} (h : steps xs i) (ha : xs[i - 1]? = some a) (hb : xs[i]? = some b) (hs : stepPt a b = true) : steps xs (i + 1) := by
 intro j c d h1 h2 h3 h4
 by_cases hj : j = i
 ·subst hj; rw [ha] at h3; rw [hb] at h4; cases h3; cases h4; exact hs
 ·exact h j c d h1 (by omega) h3 h4
def ends (xs : List Pt) : Bool := match xs[0]?, xs[xs.length - 1]? with
 | some a, some b => (a.1 == (0, 1)) && ((b.1 == (1, 1)) && (b.2 == (a.2.1 + a.2.2, a.2.2)))
 | _, _ => false
open Classical in
noncomputable def isLift (xs : List Pt) : Bool := inB 2 12 xs.length && (decide (xs.all goodPt = true ∧ steps xs xs.length) && ends xs)
end Go.PV

/-
 Plain laws: lists and tables by their places.
 Conditions: none.
-/
namespace Go.PV
section
variable {α β : Type}
def tab (n : Nat) (f : Nat → α) : List α := (List.range n).map f
theorem tab_len (n : Nat) (f : Nat → α) : (tab n f).length = n := by simp [tab]
theorem tab_get {n i : Nat} {f : Nat → α} (h : i < n) : (tab n f)[i]? = some (f i) := by simp [tab, h]
theorem tab_get_none {n i : Nat} {f : Nat → α} (h : n ≤ i) : (tab n f)[i]? = none := by simp [tab, h]
theorem idxO_tab {n i : Nat} {f : Nat → α} (h : i < n) : idxO (tab n f) (i : Int) = some (f i) := by rw [idxO_nat, tab_get h]
theorem tab_eta [Inhabited α] (xs : List α) : xs = tab xs.length (fun i => xs.getD i default) := by
 apply List.ext_getElem?
 intro j
 by_cases hj : j < xs.length
 ·rw [tab_get hj]; simp [hj]
 ·rw [tab_get_none (by omega)]; simp; omega
theorem tab_mem {n : Nat} {f : Nat → α} {x : α} : x ∈ tab n f ↔ ∃ i, i < n ∧ f i = x := by simp [tab]
def mat (n m : Nat) (f : Nat → Nat → α) : List (List α) := tab n fun i => tab m (f i)
def foldN (n : Nat) (g : β → Nat → β) (s : β) : β := (List.range n).foldl g s
end
end Go.PV

/-
 Plain laws: graphs, numbers of walks.
 Conditions: none.
-/
namespace Go.PV
def sized (g : List (List Int)) : Prop := g.length ≤ 1048576 ∧ ∀ row ∈ g, row.length ≤ 1048576
def isGraph (g : List (List Int)) : Bool := inB 1 8 g.length && g.all fun row => (row.length : Int) == g.length && row.all (inB 0 9)
end Go.PV

/-
 Plain laws: powers of graphs' tables, numbers of all walks.
 Conditions: none.
-/
namespace Go.PV
def capMul (most acc w a : Int) : Int := if most < w64 (acc + w64 (w * a)) then most else w64 (acc + w64 (w * a))
def powStep (n : Nat) (G : Nat → Nat → Int) (most : Int) (F : Nat → Nat → Int) : Nat → Nat → Int := fun i j => foldN n (fun acc k => capMul most acc (F i k) (G k j)) 0
def idM : Nat → Nat → Int := fun i j => if i = j then 1 else 0
def powN (n : Nat) (G : Nat → Nat → Int) (most : Int) : Nat → Nat → Nat → Int
 | 0 => idM
 | m + 1 => powStep n G most (powN n G most m)
section impl
variable {n : Nat} {G : Nat → Nat → Int} {most : Int}
end impl
section spec
variable {n : Nat} {G : Nat → Nat → Int}
end spec
def capAt (x : Int) : Int := if 1000000001 < x then 1000000001 else x
def total (g : List (List Int)) : Int := (g.map List.sum).sum
def totalWalks (g : List (List Int)) (m : Int) : Int × Bool :=
 if isGraph g && inB 0 12 m then
  let t := total (mat g.length g.length (powN g.length (fun i j => (g.getD i []).getD j 0) 1000000001 m.toNat))
  if t > 1000000000 then (0, false) else (t, true)
 else (0, false)
end Go.PV

set_option linter.all false
namespace Go.PV
theorem lowest_isRat {n d : Int} (h1 : 0 ≤ n) (h2 : n ≤ 1000000000) (h3 : 1 ≤ d) (h4 : d ≤ 1000000000) : isRat (lowest n d).1 = true := by
 have hg : 0 < Int.gcd n d := Int.gcd_pos_of_ne_zero_right _ (by omega)
 have key : isRat (Int.tdiv n (Int.gcd n d : Int), Int.tdiv d (Int.gcd n d : Int)) = true := by
  obtain ⟨a, rfl⟩ := Int.eq_ofNat_of_zero_le h1
  obtain ⟨b, rfl⟩ := Int.eq_ofNat_of_zero_le (show 0 ≤ d by omega)
  have e : Int.gcd (a : Int) (b : Int) = Nat.gcd a b := rfl
  rw [e] at hg ⊢
  have e1 : Int.tdiv (a : Int) ((Nat.gcd a b : Nat) : Int) = ((a / Nat.gcd a b : Nat) : Int) := by rw [Int.tdiv_eq_ediv_of_nonneg (by omega)]; rfl
  have e2 : Int.tdiv (b : Int) ((Nat.gcd a b : Nat) : Int) = ((b / Nat.gcd a b : Nat) : Int) := by rw [Int.tdiv_eq_ediv_of_nonneg (by omega)]; rfl
  rw [e1, e2, isRat_iff]
  have l1 : a / Nat.gcd a b ≤ a := Nat.div_le_self _ _
  have l2 : b / Nat.gcd a b ≤ b := Nat.div_le_self _ _
  have l3 : 0 < b / Nat.gcd a b := Nat.div_pos (Nat.le_of_dvd (by omega) (Nat.gcd_dvd_right a b)) hg
  have l4 : ((a / Nat.gcd a b : Nat) : Int) ≤ 1000000000 := by omega
  have l5 : ((b / Nat.gcd a b : Nat) : Int) ≤ 1000000000 := by omega
  have l6 : 1 ≤ ((b / Nat.gcd a b : Nat) : Int) := by omega
  have l7 : 0 ≤ ((a / Nat.gcd a b : Nat) : Int) := Int.natCast_nonneg _
  generalize hA : ((a / Nat.gcd a b : Nat) : Int) = A at l4 l7 ⊢
  generalize hB : ((b / Nat.gcd a b : Nat) : Int) = B at l5 l6 ⊢
  refine ⟨l6, l5, by show -1000000000 ≤ A; omega, l4, ?_⟩
  rw [← hA, ← hB]
  exact Nat.coprime_div_gcd_div_gcd hg
 have hdn : ¬ d < 0 := by omega
 unfold lowest
 simp only [if_neg hdn]
 rw [if_pos key]
 exact key
def dotN (G : Nat → Int) (v : Nat → Int) (n : Nat) : Int := foldN n (fun s j => s + G j * v j) 0
end Go.PV

/-
 Plain laws: sums, products and quotients of fractions, with what is too large told.
 Conditions: none.
-/
set_option linter.all false
namespace Go.PV
abbrev Rt := Int × Int
def unO : Option Rt → Rt × Bool
 | some r => (r, true)
 | none => ((0, 0), false)
def lowQ (n d : Int) : Option Rt := if (lowest n d).2 = true then some (lowest n d).1 else none
def addQ (a b : Rt) : Option Rt := lowQ (a.1 * b.2 + b.1 * a.2) (a.2 * b.2)
def subQ (a b : Rt) : Option Rt := lowQ (a.1 * b.2 - b.1 * a.2) (a.2 * b.2)
def mulQ (a b : Rt) : Option Rt := lowQ (a.1 * b.1) (a.2 * b.2)
def divQ (a b : Rt) : Option Rt := if b.1 = 0 then none else lowQ (a.1 * b.2) (a.2 * b.1)
structure RB (a b : Rt) : Prop where
 m1 : -1000000000000000000 ≤ a.1 * b.2 ∧ a.1 * b.2 ≤ 1000000000000000000
 m2 : -1000000000000000000 ≤ b.1 * a.2 ∧ b.1 * a.2 ≤ 1000000000000000000
 m3 : -1000000000000000000 ≤ a.2 * b.2 ∧ a.2 * b.2 ≤ 1000000000000000000
 m4 : -1000000000000000000 ≤ a.1 * b.1 ∧ a.1 * b.1 ≤ 1000000000000000000
 ne : a.2 * b.2 ≠ 0
 m5 : -1000000000000000000 ≤ a.2 * b.1 ∧ a.2 * b.1 ≤ 1000000000000000000
section spec
variable {a b : Rt} (ha : isRat a = true) (hb : isRat b = true)
include ha hb
end spec
def cK (bad : Bool) : Option Rt → Rt × Bool
 | some r => (r, bad)
 | none => ((0, 1), true)
theorem isRat_neg {a : Rt} (h : isRat a = true) : isRat (0 - a.1, a.2) = true := by
 obtain ⟨h1, h2, h3, h4, h5⟩ := isRat_iff.1 h
 refine isRat_iff.2 ⟨h1, h2, by show -1000000000 ≤ 0 - a.1; omega, by show 0 - a.1 ≤ _; omega, ?_⟩
 show Int.gcd (0 - a.1) a.2 = 1
 rw [Int.zero_sub, Int.neg_gcd]; exact h5
section impl
variable {a b : Rt} (bad : Bool) (ha : isRat a = true) (hb : isRat b = true)
include ha hb
end impl
def absR (r : Rt) : Rt := ((r.1.natAbs : Int), r.2)
def distQ (a b : Rt) : Option Rt := if less a b then subQ b a else subQ a b
theorem lowQ_neg {n d : Int} (hd : 0 < d) : lowQ (-n) d = (lowQ n d).map fun r => (-r.1, r.2) := by
 have hn : ¬ d < 0 := by omega
 have e : isRat (Int.tdiv (-n) (Int.gcd n d : Int), Int.tdiv d (Int.gcd n d : Int)) = isRat (Int.tdiv n (Int.gcd n d : Int), Int.tdiv d (Int.gcd n d : Int)) := by
  rw [Int.neg_tdiv]
  cases h : isRat (Int.tdiv n (Int.gcd n d : Int), Int.tdiv d (Int.gcd n d : Int))
  ·cases h2 : isRat (-Int.tdiv n (Int.gcd n d : Int), Int.tdiv d (Int.gcd n d : Int))
   ·rfl
   ·have := isRat_neg h2
    simp only [Int.zero_sub, Int.neg_neg] at this
    rw [h] at this; cases this
  ·have := isRat_neg h
   simp only [Int.zero_sub] at this
   exact this
 unfold lowQ lowest
 simp only [Int.neg_gcd, if_neg hn, e]
 cases isRat (Int.tdiv n (Int.gcd n d : Int), Int.tdiv d (Int.gcd n d : Int))
 ·rfl
 ·simp [Int.neg_tdiv]
end Go.PV

set_option linter.all false
namespace Go.PV
theorem spec_bad_eq {α : Type} (p : Pt) (f : Bool → Option α) : ((spec_imCoord p.1).bind fun v16 =>
  (if (!v16) = true then
    some true
   else
    (spec_raGood p.2).bind fun v17 =>
    if (!v17) = true then
     some true
    else
     if (decide (p.2.2 > 100)) = true then
      some true
     else
      (spec_l1In p.2.1 (w64 ((-5) * p.2.2)) (w64 (5 * p.2.2))).bind fun v18 =>
      some (!v18)).bind f) = f (!goodPt p) := by
 unfold goodPt
 simp only [spec_imCoord_eq, spec_raGood_eq, Option.bind_some]
 cases h1 : coord p.1
 ·simp
 ·cases h : isRat p.2
  ·simp
  ·obtain ⟨h2, h3, h4, h5, _⟩ := isRat_iff.1 h
   by_cases h6 : p.2.2 > 100
   ·have : ¬ p.2.2 ≤ 100 := by omega
    simp [h6, this]
   ·have h7 : p.2.2 ≤ 100 := by omega
    rw [w64_id (by omega) (by omega), w64_id (by omega) (by omega)]
    simp [h6, h7, spec_l1In_eq]
theorem spec_liGood_loop (xs : List Pt) (hl : xs.length ≤ 4611686018427387904) :
  ∃ y, loopO (spec_liGood_b1 xs) 0 = some y ∧ ((y = .inl false ∧ ¬ (xs.all goodPt = true ∧ steps xs xs.length)) ∨ (y = .inr () ∧ xs.all goodPt = true ∧ steps xs xs.length)) := by
 refine loop_run (fun x => ∃ i : Nat, x = (i : Int) ∧ i ≤ xs.length ∧ (∀ j p, j < i → xs[j]? = some p → goodPt p = true) ∧ steps xs i) (fun x => xs.length - x.toNat) (fun (y : Bool ⊕ Unit) => (y = .inl false ∧ ¬ (xs.all goodPt = true ∧ steps xs xs.length)) ∨ (y = .inr () ∧ xs.all goodPt = true ∧ steps xs xs.length)) ?_ 0 ⟨0, rfl, by omega, fun j p h => by omega, fun i a b h1 h2 => by omega⟩
 rintro _ ⟨i, rfl, hi, hg, hs⟩
 by_cases hlt : i < xs.length
 ·have hx := idxO_lt hlt
  obtain ⟨p, hp⟩ : ∃ p, xs[i]? = some p := ⟨xs[i], List.getElem?_eq_getElem hlt⟩
  unfold spec_liGood_b1
  simp only [show ((i : Int) < (xs.length : Int)) from by omega, decide_true, if_true, idxO_nat, hp, Option.bind_some]
  rw [spec_bad_eq]
  cases hgp : goodPt p
  ·refine .inr ⟨.inl false, by simp, .inl ⟨rfl, fun h => ?_⟩⟩
   have := List.all_eq_true.1 h.1 p (List.mem_of_getElem? hp)
   rw [hgp] at this; cases this
  ·simp only [Bool.not_true, Bool.false_eq_true, if_false]
   have hg' : ∀ j q, j < i + 1 → xs[j]? = some q → goodPt q = true := fun j q h1 h2 => by
    by_cases hj : j = i
    ·subst hj; rw [hp] at h2; cases h2; exact hgp
    ·exact hg j q (by omega) h2
   by_cases hi0 : i = 0
   ·subst hi0
    refine .inl ⟨((0 + 1 : Nat) : Int), ?_, ⟨0 + 1, rfl, by omega, hg', fun i a b h1 h2 => by omega⟩, by simp; omega⟩
    simp [w64_nat (show 0 < 9223372036854775807 by omega)]
    rfl
   ·have hpos : ((i : Int) > 0) := by omega
    have hw : w64 ((i : Int) - 1) = ((i - 1 : Nat) : Int) := by rw [w64_id (by omega) (by omega)]; omega
    have hlt2 : i - 1 < xs.length := by omega
    obtain ⟨q, hq⟩ : ∃ q, xs[i - 1]? = some q := ⟨xs[i - 1], List.getElem?_eq_getElem hlt2⟩
    have hgq := hg (i - 1) q (by omega) hq
    obtain ⟨p1, p2⟩ := goodPt_tame hgp
    obtain ⟨q1, q2⟩ := goodPt_tame hgq
    simp only [hpos, decide_true, if_true, hw, idxO_nat, hq, Option.bind_some, spec_raCmp_eq q.1 p.1 (tame_of q1) (tame_of p1), spec_raCmp_eq q.2 p.2 (tame_of q2) (tame_of p2), cmp_ge, cmp_gt]
    by_cases hst : stepPt q p = true
    ·have h5 : less q.1 p.1 = true ∧ less p.2 q.2 = false := by simpa [stepPt] using hst
     refine .inl ⟨((i + 1 : Nat) : Int), ?_, ⟨i + 1, rfl, by omega, hg', steps_succ hs hq hp hst⟩, by simp; omega⟩
     simp [h5.1, h5.2, w64_nat (show i < 9223372036854775807 by omega)]
    ·refine .inr ⟨.inl false, ?_, .inl ⟨rfl, fun h => hst (h.2 i q p (by omega) hlt hq hp)⟩⟩
     cases h6 : less q.1 p.1
     ·simp
     ·cases h7 : less p.2 q.2
      ·simp [stepPt, h6, h7] at hst
      ·simp
 ·have he : i = xs.length := by omega
  subst he
  refine .inr ⟨.inr (), by simp [spec_liGood_b1], .inr ⟨rfl, ?_, hs⟩⟩
  rw [List.all_eq_true]
  intro p hp
  obtain ⟨j, hj, rfl⟩ := List.mem_iff_getElem.1 hp
  exact hg j _ hj (List.getElem?_eq_getElem hj)
theorem impl_isLift_loop (xs : List Pt) (hl : xs.length ≤ 4611686018427387904) (h2 : 1 ≤ xs.length) (hall : xs.all goodPt = true) :
  ∃ y, loopO (impl_isLift_b1 xs) 1 = some y ∧ ((y = .inl false ∧ ¬ steps xs xs.length) ∨ (y = .inr () ∧ steps xs xs.length)) := by
 refine loop_run (fun x => ∃ i : Nat, x = (i : Int) ∧ 1 ≤ i ∧ i ≤ xs.length ∧ steps xs i) (fun x => xs.length - x.toNat) (fun (y : Bool ⊕ Unit) => (y = .inl false ∧ ¬ steps xs xs.length) ∨ (y = .inr () ∧ steps xs xs.length)) ?_ 1 ⟨1, rfl, by omega, by omega, fun i a b h1 h2 => by omega⟩
 rintro _ ⟨i, rfl, hi0, hi, hs⟩
 by_cases hlt : i < xs.length
 ·obtain ⟨p, hp⟩ : ∃ p, xs[i]? = some p := ⟨xs[i], List.getElem?_eq_getElem hlt⟩
  have hgp := List.all_eq_true.1 hall p (List.mem_of_getElem? hp)
  have hw : w64 ((i : Int) - 1) = ((i - 1 : Nat) : Int) := by rw [w64_id (by omega) (by omega)]; omega
  have hlt2 : i - 1 < xs.length := by omega
  obtain ⟨q, hq⟩ : ∃ q, xs[i - 1]? = some q := ⟨xs[i - 1], List.getElem?_eq_getElem hlt2⟩
  have hgq := List.all_eq_true.1 hall q (List.mem_of_getElem? hq)
  obtain ⟨p1, p2⟩ := goodPt_tame hgp
  obtain ⟨q1, q2⟩ := goodPt_tame hgq
  unfold impl_isLift_b1
  simp only [show ((i : Int) < (xs.length : Int)) from by omega, decide_true, if_true, hw, idxO_nat, hp, hq, Option.bind_some, impl_less_eq q.1 p.1 (tame_of q1) (tame_of p1), impl_less_eq p.2 q.2 (tame_of p2) (tame_of q2)]
  by_cases hst : stepPt q p = true
  ·have h5 : less q.1 p.1 = true ∧ less p.2 q.2 = false := by simpa [stepPt] using hst
   refine .inl ⟨((i + 1 : Nat) : Int), ?_, ⟨i + 1, rfl, by omega, by omega, steps_succ hs hq hp hst⟩, by simp; omega⟩
   simp [h5.1, h5.2, w64_nat (show i < 9223372036854775807 by omega)]
  ·refine .inr ⟨.inl false, ?_, .inl ⟨rfl, fun h => hst (h i q p (by omega) hlt hq hp)⟩⟩
   cases h6 : less q.1 p.1
   ·simp
   ·cases h7 : less p.2 q.2
    ·simp [stepPt, h6, h7] at hst
    ·simp
 ·have he : i = xs.length := by omega
  subst he
  exact .inr ⟨.inr (), by simp [impl_isLift_b1], .inr ⟨rfl, hs⟩⟩
theorem zero_iff {r : Int × Int} (h : isRat r = true) : (r.1 * 1 == 0 * r.2) = (r == (0, 1)) := by
 obtain ⟨h1, h2, h3, h4, h5⟩ := isRat_iff.1 h
 obtain ⟨n, d⟩ := r
 simp only [Int.mul_one, Int.zero_mul]
 by_cases hn : n = 0
 ·subst hn
  have h6 : d.natAbs = 1 := by simpa using h5
  have h7 : d = 1 := by omega
  subst h7; rfl
 ·have e1 : (n == 0) = false := by simpa using hn
  have e2 : ((n, d) == ((0, 1) : Int × Int)) = false := by simp [hn]
  rw [e1, e2]
theorem one_iff {r : Int × Int} (h : isRat r = true) : (r.1 * 1 == 1 * r.2) = (r == (1, 1)) := by
 obtain ⟨h1, h2, h3, h4, h5⟩ := isRat_iff.1 h
 obtain ⟨n, d⟩ := r
 simp only [Int.mul_one, Int.one_mul]
 by_cases hn : n = d
 ·subst hn
  have h6 : n.natAbs = 1 := by simpa using h5
  have h7 : n = 1 := by omega
  subst h7; rfl
 ·by_cases h6 : n = 1
  ·subst h6; have : ¬ d = 1 := fun e => hn e.symm
   have e1 : ((1 : Int) == d) = false := by simpa using hn
   have e2 : (((1 : Int), d) == ((1, 1) : Int × Int)) = false := by simp [this]
   rw [e1, e2]
  ·have e1 : (n == d) = false := by simpa using hn
   have e2 : ((n, d) == ((1, 1) : Int × Int)) = false := by simp [h6]
   rw [e1, e2]
theorem pair_beq (a b : Int × Int) : ((a.1 == b.1) && (a.2 == b.2)) = (a == b) := by
 obtain ⟨a1, a2⟩ := a; obtain ⟨b1, b2⟩ := b; rfl
theorem ends_aux (xs : List Pt) (hl : 2 ≤ xs.length) (hm : xs.length ≤ 12) (hall : xs.all goodPt = true) : spec_liGood_k1 xs () = some (ends xs) ∧ impl_isLift_k1 xs () = some (ends xs) := by
 have hlt : 0 < xs.length := by omega
 have hlt2 : xs.length - 1 < xs.length := by omega
 obtain ⟨a, ha⟩ : ∃ a, xs[0]? = some a := ⟨xs[0], List.getElem?_eq_getElem hlt⟩
 obtain ⟨b, hb⟩ : ∃ b, xs[xs.length - 1]? = some b := ⟨xs[xs.length - 1], List.getElem?_eq_getElem hlt2⟩
 have hw : w64 ((xs.length : Int) - 1) = ((xs.length - 1 : Nat) : Int) := by rw [w64_id (by omega) (by omega)]; omega
 have hga := goodPt_tame (List.all_eq_true.1 hall a (List.mem_of_getElem? ha))
 have hgb := goodPt_tame (List.all_eq_true.1 hall b (List.mem_of_getElem? hb))
 obtain ⟨h2, h3, h4, h5, _⟩ := isRat_iff.1 hga.2
 have t0 : tame (0, 1) := ⟨by decide, by decide, by decide, by decide⟩
 have t1 : tame (1, 1) := ⟨by decide, by decide, by decide, by decide⟩
 have z0 : idxO xs 0 = some a := by rw [show (0 : Int) = ((0 : Nat) : Int) from rfl, idxO_nat, ha]
 have e1 : w64 (1 * a.2.2) = a.2.2 := by rw [w64_id (by omega) (by omega)]; omega
 have e2 : w64 (a.2.1 + a.2.2) = a.2.1 + a.2.2 := w64_id (by omega) (by omega)
 unfold spec_liGood_k1 impl_isLift_k1 ends
 simp only [z0, hw, idxO_nat, ha, hb, Option.bind_some, spec_raInt, impl_zero, impl_oneRat, spec_liPlus, e1, e2, spec_raCmp_eq a.1 (0, 1) (tame_of hga.1) t0, spec_raCmp_eq b.1 (1, 1) (tame_of hgb.1) t1, cmp_zero, zero_iff hga.1, one_iff hgb.1, pair_beq a.1 (0, 1), pair_beq b.1 (1, 1), pair_beq b.2 (a.2.1 + a.2.2, a.2.2)]
 constructor <;> cases (a.1 == (0, 1)) <;> cases (b.1 == (1, 1)) <;> simp
theorem spec_liGood_eq (xs : List Pt) (hl : xs.length ≤ 4611686018427387904) : spec_liGood xs = some (isLift xs) := by
 unfold spec_liGood isLift
 rw [spec_l1In_eq, Option.bind_some]
 cases h : inB 2 12 xs.length
 ·simp
 ·obtain ⟨h1, h2⟩ := inB_iff.1 h
  obtain ⟨y, h3, h4⟩ := spec_liGood_loop xs hl
  simp only [Bool.not_true, Bool.false_eq_true, if_false, h3, Option.bind_some, Bool.true_and]
  rcases h4 with ⟨rfl, h4⟩ | ⟨rfl, h4⟩
  ·have hd : ∀ {p : Prop} (inst : Decidable p), ¬ p → decide p = false := fun _ h => decide_eq_false h
   rw [hd _ h4]; simp
  ·simp only [Sum.elim_inr, (ends_aux xs (by omega) (by omega) h4.1).1, h4, and_self, decide_true, Bool.true_and]
theorem impl_isLift_eq (xs : List Pt) (hl : xs.length ≤ 4611686018427387904) : impl_isLift xs = some (isLift xs) := by
 unfold impl_isLift isLift
 rw [impl_within_eq, Option.bind_some]
 cases h : inB 2 12 xs.length
 ·simp
 ·obtain ⟨h1, h2⟩ := inB_iff.1 h
  rw [slices_ContainsFunc_Limpl_Point_impl_Point_eq xs (fun x0 => impl_isLift_1 x0) _ impl_isLift_1_eq hl]
  cases hall : xs.all goodPt
  ·have : (xs.any fun p => !goodPt p) = true := by rw [List.any_eq_not_all_not]; simp [hall]
   simp [this]
  ·have hany : (xs.any fun p => !goodPt p) = false := by rw [List.any_eq_not_all_not]; simp [hall]
   obtain ⟨y, h3, h4⟩ := impl_isLift_loop xs hl (by omega) hall
   simp only [Bool.not_true, Bool.false_eq_true, if_false, hany, h3, Option.bind_some, Bool.true_and]
   rcases h4 with ⟨rfl, h4⟩ | ⟨rfl, h4⟩
   ·have hd : ∀ {p : Prop} (inst : Decidable p), ¬ p → decide p = false := fun _ h => decide_eq_false h
    rw [hd _ (fun h => h4 h.2)]; simp
   ·simp only [Sum.elim_inr, (ends_aux xs (by omega) (by omega) hall).2, h4, and_self, decide_true, Bool.true_and]
theorem laws_eqLift_self (xs : List Pt) (hl : xs.length ≤ 4611686018427387904) : laws_eqLift xs xs = some true := by
 simp [laws_eqLift, laws_eqPointS_self xs hl]
theorem laws_toLift_eq (xs : List Pt) (hl : xs.length ≤ 1099511627776) : laws_toLift xs = some xs := by simp [laws_toLift, laws_toPointS_eq xs hl]
theorem laws_szLift_eq (xs : List Pt) (hl : xs.length ≤ 9223372036854775807) : ∃ v, laws_szLift xs 1048576 = some v ∧ (¬ v < 0 → xs.length ≤ 1048576) := by
 unfold laws_szLift
 rw [show (1048576 : Int) = ((1048576 : Nat) : Int) from rfl, laws_szPointS_eq xs 1048576 (by omega) hl, Option.bind_some]
 by_cases h : 1048576 < xs.length
 ·exact ⟨-1, by simp [h], by omega⟩
 ·refine ⟨((1048576 : Nat) : Int) - xs.length, ?_, by omega⟩
  have : ¬ ((1048576 : Nat) : Int) - xs.length < 0 := by omega
  simp only [h, if_false]
  simp only [this, decide_false, Bool.false_eq_true, if_false]
end Go.PV

/-
 Plain laws: maps of the interval.
 Conditions: none.
-/
set_option linter.all false
namespace Go.PV
section
variable {α β : Type}
end
def isMapT (n : Nat) (p : Nat → Pt) : Prop := (∀ i, i < n → coord (p i).1 = true ∧ coord (p i).2 = true) ∧ (∀ i, 0 < i → i < n → less (p (i - 1)).1 (p i).1 = true) ∧ (p 0).1 = (0, 1) ∧ (p (n - 1)).1 = (1, 1)
end Go.PV

/-
 Plain laws: the variation of a map.
 Conditions: none.
-/
set_option linter.all false
namespace Go.PV
def sumD (r : Nat → Rt) : Nat → Option Rt
 | 0 => some (0, 1)
 | k + 1 => (sumD r k).bind fun s => (distQ (r k) (r (k + 1))).bind fun d => addQ s d
end Go.PV

/-
 Plain laws: slopes and laps of a map.
 Conditions: none.
-/
set_option linter.all false
namespace Go.PV
structure LowOk (n d : Int) (r : Rt) : Prop where
 eq : lowQ n d = some r
 rat : isRat r = true
 num : r.1.natAbs ≤ n.natAbs
 den : 1 ≤ r.2 ∧ r.2 ≤ d
 pos : 0 < n → 0 < r.1
 neg : n < 0 → r.1 < 0
 zer : n = 0 → r.1 = 0
theorem lowQ_some_nonneg {n d : Int} (h1 : 0 ≤ n) (h2 : n ≤ 1000000000) (h3 : 1 ≤ d) (h4 : d ≤ 1000000000) : ∃ r, LowOk n d r := by
 have hg : 0 < Int.gcd n d := Int.gcd_pos_of_ne_zero_right _ (by omega)
 have hdn : ¬ d < 0 := by omega
 have hr := lowest_isRat h1 h2 h3 h4
 have e : lowest n d = if isRat (Int.tdiv n (Int.gcd n d : Int), Int.tdiv d (Int.gcd n d : Int)) = true then ((Int.tdiv n (Int.gcd n d : Int), Int.tdiv d (Int.gcd n d : Int)), true) else ((0, 0), false) := by
  unfold lowest; simp only [if_neg hdn]
 have hrat : isRat (Int.tdiv n (Int.gcd n d : Int), Int.tdiv d (Int.gcd n d : Int)) = true := by
  refine Classical.byContradiction fun hno => ?_
  rw [e, if_neg hno] at hr
  exact absurd hr (by decide)
 rw [if_pos hrat] at e
 have e1 : Int.tdiv n (Int.gcd n d : Int) = n / (Int.gcd n d : Int) := Int.tdiv_eq_ediv_of_nonneg h1
 have e2 : Int.tdiv d (Int.gcd n d : Int) = d / (Int.gcd n d : Int) := Int.tdiv_eq_ediv_of_nonneg (by omega)
 have hgn : 0 < n → (Int.gcd n d : Int) ≤ n := fun h => by
  have := Nat.gcd_le_left d.natAbs (show 0 < n.natAbs by omega)
  have e : Int.gcd n d = Nat.gcd n.natAbs d.natAbs := rfl
  omega
 refine ⟨_, ⟨by unfold lowQ; rw [e]; rfl, hrat, ?_, ⟨(isRat_iff.1 hrat).1, ?_⟩, fun h => ?_, fun h => by omega, fun h => by subst h; simp⟩⟩
 ·exact tdiv_bound _ _
 ·show Int.tdiv d _ ≤ d
  have := tdiv_bound d (Int.gcd n d : Int)
  have h5 := (isRat_iff.1 hrat).1
  simp only at h5
  omega
 ·show 0 < Int.tdiv n _
  rw [e1]
  exact Int.ediv_pos_of_pos_of_dvd h (by omega) (Int.gcd_dvd_left ..)
theorem lowQ_some {n d : Int} (h1 : -1000000000 ≤ n) (h2 : n ≤ 1000000000) (h3 : 1 ≤ d) (h4 : d ≤ 1000000000) : ∃ r, LowOk n d r := by
 by_cases hn : 0 ≤ n
 ·exact lowQ_some_nonneg hn h2 h3 h4
 ·obtain ⟨r, h⟩ := lowQ_some_nonneg (n := -n) (d := d) (by omega) (by omega) h3 h4
  have e := lowQ_neg (n := -n) (d := d) (by omega)
  rw [Int.neg_neg, h.eq] at e
  have hr := isRat_neg h.rat
  have := h.pos (by omega)
  have := h.num
  exact ⟨(-r.1, r.2), ⟨e, by rw [Int.zero_sub] at hr; exact hr, by show (-r.1).natAbs ≤ _; omega, h.den, fun h => by omega, fun h => by show -r.1 < 0; omega, fun h => by omega⟩⟩
theorem coord_bd {r : Rt} (h : coord r = true) : 0 ≤ r.1 ∧ r.1 ≤ r.2 ∧ 1 ≤ r.2 ∧ r.2 ≤ 100 := by
 simp only [coord, isUnit, Bool.and_eq_true, inB_iff, decide_eq_true_eq] at h
 have := isRat_iff.1 h.1.1
 omega
theorem mul_bd {a b A B : Int} (h1 : -A ≤ a) (h2 : a ≤ A) (h3 : -B ≤ b) (h4 : b ≤ B) (hA : 0 ≤ A) (hB : 0 ≤ B) : -(A * B) ≤ a * b ∧ a * b ≤ A * B := by
 have h5 : (a * b).natAbs ≤ A.natAbs * B.natAbs := by rw [Int.natAbs_mul]; exact Nat.mul_le_mul (by omega) (by omega)
 have h6 : ((A.natAbs * B.natAbs : Nat) : Int) = A * B := by rw [Int.natCast_mul]; rw [Int.natAbs_of_nonneg hA, Int.natAbs_of_nonneg hB]
 omega
def small (r : Rt) : Prop := isRat r = true ∧ -500 ≤ r.1 ∧ r.1 ≤ 500 ∧ 1 ≤ r.2 ∧ r.2 ≤ 100
theorem small_coord {r : Rt} (h : coord r = true) : small r := by
 have := coord_bd h
 exact ⟨coord_rat h, by omega, by omega, by omega, by omega⟩
theorem sub_small {a b : Rt} (ha : small a) (hb : small b) : ∃ r, LowOk (a.1 * b.2 - b.1 * a.2) (a.2 * b.2) r ∧ subQ a b = some r ∧ r.1.natAbs ≤ 100000 ∧ r.2 ≤ 10000 := by
 obtain ⟨_, a1, a2, a3, a4⟩ := ha
 obtain ⟨_, b1, b2, b3, b4⟩ := hb
 have m1 := mul_bd (a := a.1) (b := b.2) (A := 500) (B := 100) (by omega) (by omega) (by omega) (by omega) (by omega) (by omega)
 have m2 := mul_bd (a := b.1) (b := a.2) (A := 500) (B := 100) (by omega) (by omega) (by omega) (by omega) (by omega) (by omega)
 have m3 := mul_bd (a := a.2) (b := b.2) (A := 100) (B := 100) (by omega) (by omega) (by omega) (by omega) (by omega) (by omega)
 have p3 : 0 < a.2 * b.2 := Int.mul_pos (by omega) (by omega)
 obtain ⟨r, hr⟩ := lowQ_some (n := a.1 * b.2 - b.1 * a.2) (d := a.2 * b.2) (by omega) (by omega) (by omega) (by omega)
 have h5 := hr.num
 have h6 := hr.den
 exact ⟨r, hr, hr.eq, by omega, by omega⟩
def slopeQ (p q : Pt) : Rt := (((subQ q.2 p.2).bind fun u => (subQ q.1 p.1).bind fun v => divQ u v)).getD (0, 0)
structure SlopeOk (p q : Pt) (u v : Rt) : Prop where
 up : subQ q.2 p.2 = some u
 far : subQ q.1 p.1 = some v
 ru : isRat u = true
 rv : isRat v = true
 div : divQ u v = some (slopeQ p q)
 rs : isRat (slopeQ p q) = true
 ub : u.1.natAbs ≤ 100000 ∧ u.2 ≤ 10000
 vb : v.1.natAbs ≤ 10000 ∧ v.2 ≤ 10000
 vp : 0 < v.1
 sg : (0 < (slopeQ p q).1 ↔ 0 < u.1) ∧ ((slopeQ p q).1 < 0 ↔ u.1 < 0)
theorem slope_ok {p q : Pt} (hp1 : coord p.1 = true) (hp2 : small p.2) (hq1 : coord q.1 = true) (hq2 : small q.2) (hl : less p.1 q.1 = true) : ∃ u v, SlopeOk p q u v := by
 obtain ⟨u, hu, e1, u1, u2⟩ := sub_small hq2 hp2
 obtain ⟨v, hv, e2, v1', v2⟩ := sub_small (small_coord hq1) (small_coord hp1)
 have v1 : v.1.natAbs ≤ 10000 := by
  have h1 := hv.num
  obtain ⟨a1, a2, a3, a4⟩ := coord_bd hq1
  obtain ⟨b1, b2, b3, b4⟩ := coord_bd hp1
  have m1 := mul_bd (a := q.1.1) (b := p.1.2) (A := 100) (B := 100) (by omega) (by omega) (by omega) (by omega) (by omega) (by omega)
  have m2 := mul_bd (a := p.1.1) (b := q.1.2) (A := 100) (B := 100) (by omega) (by omega) (by omega) (by omega) (by omega) (by omega)
  have p1 : 0 ≤ q.1.1 * p.1.2 := Int.mul_nonneg a1 (by omega)
  have p2 : 0 ≤ p.1.1 * q.1.2 := Int.mul_nonneg b1 (by omega)
  omega
 have hlt : p.1.1 * q.1.2 < q.1.1 * p.1.2 := by simpa [less] using hl
 have hvp := hv.pos (by omega)
 have hud := hu.den
 have hvd := hv.den
 have m1 := mul_bd (a := u.1) (b := v.2) (A := 100000) (B := 10000) (by omega) (by omega) (by omega) (by omega) (by omega) (by omega)
 have m2 := mul_bd (a := u.2) (b := v.1) (A := 10000) (B := 10000) (by omega) (by omega) (by omega) (by omega) (by omega) (by omega)
 have m3 : 0 < u.2 * v.1 := Int.mul_pos (by omega) hvp
 obtain ⟨s, hs⟩ := lowQ_some (n := u.1 * v.2) (d := u.2 * v.1) (by omega) (by omega) (by omega) (by omega)
 have e3 : divQ u v = some s := by unfold divQ; rw [if_neg (by omega)]; exact hs.eq
 have e4 : slopeQ p q = s := by unfold slopeQ; rw [e1, e2]; simp [e3]
 refine ⟨u, v, ⟨e1, e2, hu.rat, hv.rat, by rw [e4]; exact e3, by rw [e4]; exact hs.rat, ⟨u1, u2⟩, ⟨v1, v2⟩, hvp, ?_⟩⟩
 rw [e4]
 have hv2 : 0 < v.2 := by omega
 rcases Int.lt_trichotomy u.1 0 with h | h | h
 ·have h1 : u.1 * v.2 < 0 := Int.mul_neg_of_neg_of_pos h hv2
  have := hs.neg h1
  constructor <;> constructor <;> omega
 ·have h1 : u.1 * v.2 = 0 := by rw [h, Int.zero_mul]
  have := hs.zer h1
  constructor <;> constructor <;> omega
 ·have h1 : 0 < u.1 * v.2 := Int.mul_pos h hv2
  have := hs.pos h1
  constructor <;> constructor <;> omega
section
variable {n : Nat} {p : Nat → Pt}
def slopesT (n : Nat) (p : Nat → Pt) : List Rt := tab (n - 1) fun i => slopeQ (p i) (p (i + 1))
def strictB (n : Nat) (p : Nat → Pt) : Bool := (slopesT n p).all fun s => !(s.1 == 0)
end
end Go.PV

/-
 Plain laws: values of maps and lifts.
 Conditions: none.
-/
set_option linter.all false
namespace Go.PV
structure Curve (n : Nat) (p : Nat → Pt) : Prop where
 lo : 2 ≤ n
 hi : n ≤ 12
 x : ∀ i, i < n → coord (p i).1 = true
 y : ∀ i, i < n → small (p i).2
 up : ∀ i, 0 < i → i < n → less (p (i - 1)).1 (p i).1 = true
 fst : (p 0).1 = (0, 1)
 lst : (p (n - 1)).1 = (1, 1)
def CR (bad : Bool) (o : Option Rt) (v : Rt × Bool) : Prop := isRat v.1 = true ∧ match o with
 | some r => v = (r, bad)
 | none => v.2 = true
section
variable {n : Nat} {p : Nat → Pt}
theorem Curve.piece (h : Curve n p) {i : Nat} (hi : i + 1 < n) : ∃ u v, SlopeOk (p i) (p (i + 1)) u v :=
 slope_ok (h.x i (by omega)) (h.y i (by omega)) (h.x (i + 1) hi) (h.y (i + 1) hi) (h.up (i + 1) (by omega) hi)
structure AtJ (n : Nat) (p : Nat → Pt) (x : Rt) (j : Nat) : Prop where
 lt : j < n
 bef : ∀ k, k < j → less (p k).1 x = true
 at' : less (p j).1 x = false
def onQ (p q : Pt) (x : Rt) : Option Rt := (subQ x p.1).bind fun far => (mulQ (slopeQ p q) far).bind fun up => addQ p.2 up
end
end Go.PV

/-
 Plain laws: values of lifts.
 Conditions: none.
-/
set_option linter.all false
namespace Go.PV
structure LiftT (n : Nat) (p : Nat → Pt) : Prop where
 cur : Curve n p
 mono : ∀ i, 0 < i → i < n → less (p i).2 (p (i - 1)).2 = false
 lstY : (p (n - 1)).2 = ((p 0).2.1 + (p 0).2.2, (p 0).2.2)
 by5 : ∀ i, i < n → -5 * (p i).2.2 ≤ (p i).2.1 ∧ (p i).2.1 ≤ 5 * (p i).2.2
theorem isLift_tab {f : List Pt} (h : isLift f = true) : ∃ n p, f = tab n p ∧ LiftT n p := by
 unfold isLift at h
 simp only [Bool.and_eq_true, decide_eq_true_eq] at h
 obtain ⟨hin, ⟨hall, hst⟩, he⟩ := h
 have hb := inB_iff.1 hin
 have e : f = tab f.length (fun i => f.getD i ((0, 0), (0, 0))) := tab_eta f
 have hg : ∀ i, i < f.length → goodPt (f.getD i ((0, 0), (0, 0))) = true := fun i hi => by
  have : f.getD i ((0, 0), (0, 0)) = f[i] := by simp [hi]
  rw [this]; exact List.all_eq_true.1 hall _ (List.getElem_mem hi)
 have hget : ∀ i, i < f.length → f[i]? = some (f.getD i ((0, 0), (0, 0))) := fun i hi => by simp [hi]
 have hs : ∀ i, 0 < i → i < f.length → stepPt (f.getD (i - 1) ((0, 0), (0, 0))) (f.getD i ((0, 0), (0, 0))) = true := fun i h0 hi => hst i _ _ h0 hi (hget (i - 1) (by omega)) (hget i hi)
 unfold ends at he
 rw [hget 0 (by omega), hget (f.length - 1) (by omega)] at he
 simp only [Bool.and_eq_true, beq_iff_eq] at he
 have hgp : ∀ i, i < f.length → coord (f.getD i ((0, 0), (0, 0))).1 = true ∧ isRat (f.getD i ((0, 0), (0, 0))).2 = true ∧ (f.getD i ((0, 0), (0, 0))).2.2 ≤ 100 ∧ -5 * (f.getD i ((0, 0), (0, 0))).2.2 ≤ (f.getD i ((0, 0), (0, 0))).2.1 ∧ (f.getD i ((0, 0), (0, 0))).2.1 ≤ 5 * (f.getD i ((0, 0), (0, 0))).2.2 := fun i hi => by
  have := hg i hi
  simp only [goodPt, Bool.and_eq_true, decide_eq_true_eq, inB_iff] at this
  exact ⟨this.1, this.2.1, this.2.2.1, this.2.2.2.1, this.2.2.2.2⟩
 refine ⟨f.length, fun i => f.getD i ((0, 0), (0, 0)), e, ⟨⟨by omega, by omega, fun i hi => (hgp i hi).1, fun i hi => ?_, fun i h0 hi => ?_, he.1, he.2.1⟩, fun i h0 hi => ?_, he.2.2, fun i hi => (hgp i hi).2.2.2⟩⟩
 ·obtain ⟨_, h1, h2, h3, h4⟩ := hgp i hi
  have := isRat_iff.1 h1
  exact ⟨h1, by omega, by omega, by omega, h2⟩
 ·have := hs i h0 hi
  simp only [stepPt, Bool.and_eq_true] at this
  exact this.1
 ·have := hs i h0 hi
  simp only [stepPt, Bool.and_eq_true, Bool.not_eq_true'] at this
  exact this.2
theorem both_isLift (f : List Pt) (hl : f.length ≤ 4611686018427387904) : spec_liGood f = some (isLift f) ∧ impl_isLift f = some (isLift f) := ⟨spec_liGood_eq f hl, impl_isLift_eq f hl⟩
def flr (x : Rt) : Int := floorDiv x.1 x.2
def part (x : Rt) : Rt := (x.1 - flr x * x.2, x.2)
structure PartOk (x : Rt) : Prop where
 rat : isRat (part x) = true
 lo : 0 ≤ (part x).1
 hi : (part x).1 < (part x).2
 spec : spec_raFloor x = some (flr x)
 impl : impl_floor x = some (flr x)
 bd : flr x * x.2 ≤ x.1 ∧ x.1 < flr x * x.2 + x.2
section
variable {n : Nat} {p : Nat → Pt}
open Classical in
noncomputable def atQ (n : Nat) (p : Nat → Pt) (x : Rt) : Option Rt := if h : ∃ j, AtJ n p x j then onQ (p (Classical.choose h - 1)) (p (Classical.choose h - 1 + 1)) x else none
noncomputable def liftQ (n : Nat) (p : Nat → Pt) (x : Rt) : Option Rt := (atQ n p (part x)).bind fun y => addQ y (flr x, 1)
end
end Go.PV

set_option linter.all false
namespace Go.PV
def minStep (a b : Int × Int) : Int × Int := if less b a = true then b else a
def maxStep (a b : Int × Int) : Int × Int := if less a b = true then b else a
def mnN (r : Nat → Int × Int) (i : Nat) : Int × Int := foldN i (fun s j => minStep s (r j)) (r 0)
def mxN (r : Nat → Int × Int) (i : Nat) : Int × Int := foldN i (fun s j => maxStep s (r j)) (r 0)
def ratN (G : Nat → Nat → Int) (v : Nat → Int) (n i : Nat) : Int × Int := (lowest (dotN (G i) v n) (v i)).1
section
variable {n : Nat} {G : Nat → Nat → Int} {v : Nat → Int}
end
def asked (g : List (List Int)) (u : List Int) : Bool := isGraph g && (isVec u && ((u.length : Int) == (g.length : Int)))
end Go.PV

set_option linter.all false
namespace Go.PV
end Go.PV

/-
 Plain laws: where a lift comes from.
 Conditions: none.
-/
set_option linter.all false
namespace Go.PV
theorem lt_le {a b c : Rt} (ha : isRat a = true) (hb : isRat b = true) (hc : isRat c = true) (h1 : less a b = true) (h2 : less c b = false) : less a c = true := by
 have a2 := (isRat_iff.1 ha).1
 have b2 := (isRat_iff.1 hb).1
 have c2 := (isRat_iff.1 hc).1
 simp only [less, decide_eq_true_eq, decide_eq_false_iff_not] at *
 have m1 := Int.mul_le_mul_of_nonneg_right (show b.1 * c.2 ≤ c.1 * b.2 by omega) (show 0 ≤ a.2 by omega)
 have m2 := Int.mul_lt_mul_of_pos_right h1 (show 0 < c.2 by omega)
 refine Classical.byContradiction fun h3 => ?_
 have m3 := Int.mul_le_mul_of_nonneg_right (show c.1 * a.2 ≤ a.1 * c.2 by omega) (show 0 ≤ b.2 by omega)
 grind
theorem le_le {a b c : Rt} (ha : isRat a = true) (hb : isRat b = true) (hc : isRat c = true) (h1 : less b a = false) (h2 : less c b = false) : less c a = false := by
 cases h : less c a
 ·rfl
 ·have := lt_le hc ha hb h h1
  rw [h2] at this; cases this
def turnK (y x : Rt) : Int := if less (part x) (part y) = true then flr x - flr y - 1 else flr x - flr y
section
variable {n : Nat} {p : Nat → Pt}
def backQ (q r : Pt) (z : Rt) : Option Rt := (subQ z q.2).bind fun u => (divQ u (slopeQ q r)).bind fun v => addQ q.1 v
theorem LiftT.le (h : LiftT n p) : ∀ {i j : Nat}, i ≤ j → j < n → less (p j).2 (p i).2 = false := by
 intro i j hij hj
 induction j with
 | zero =>
  have : i = 0 := by omega
  subst this; simp [less]
 | succ j ih =>
  by_cases he : i = j + 1
  ·subst he; simp [less]
  ·exact le_le (h.cur.y i (by omega)).1 (h.cur.y j (by omega)).1 (h.cur.y (j + 1) hj).1 (ih (by omega) (by omega)) (h.mono (j + 1) (by omega) hj)
structure UpJ (n : Nat) (p : Nat → Pt) (z : Rt) (j : Nat) : Prop where
 pos : 0 < j
 lt : j < n
 bef : ∀ k, k < j → less (p k).2 z = true
 at' : less (p j).2 z = false
structure FlatJ (n : Nat) (p : Nat → Pt) (j : Nat) : Prop where
 pos : 0 < j
 lt : j < n
 same : ∀ k, j < k → k < n → (p (k - 1)).2 = (p k).2
 step : (p (j - 1)).2 ≠ (p j).2
section
variable (h : Curve n p) {z : Rt} (hz : isRat z = true)
include h hz
end
end
end Go.PV

/-
 Plain laws: what fractions stand for.
 Conditions: none.
-/
set_option linter.all false
namespace Go.PV
def val (r : Rt) : Rat := (r.1 : Rat) / (r.2 : Rat)
section
variable {a b r : Rt} (ha : isRat a = true) (hb : isRat b = true)
include ha hb
end
end Go.PV

/-
 Plain laws: the laps of a map.
 Conditions: none.
-/
set_option linter.all false
namespace Go.PV
abbrev Trip := Nat × Nat × Int
def encT (t : Trip) : List Int := [(t.1 : Int), (t.2.1 : Int), t.2.2]
def lapStep (l : List Trip) (i : Nat) (s : Int) : List Trip := match l.getLast? with
 | some t => if t.2.2 = s then l.dropLast ++ [(t.1, i + 1, s)] else l ++ [(i, i + 1, s)]
 | none => l ++ [(i, i + 1, s)]
def lapsN (σ : Nat → Int) : Nat → List Trip
 | 0 => []
 | i + 1 => lapStep (lapsN σ i) i (σ i)
structure LapInv (σ : Nat → Int) (i : Nat) : Prop where
 len : (lapsN σ i).length ≤ i
 ne : 0 < i → lapsN σ i ≠ []
 bd : ∀ t ∈ lapsN σ i, t.1 < t.2.1 ∧ t.2.1 ≤ i
def sg (n : Int) : Int := if 0 < n then 1 else if n < 0 then -1 else 0
section
variable {m : Nat} {r : Nat → Rt}
end
section
variable {n : Nat} {p : Nat → Pt}
def wayOf (p : Nat → Pt) : Nat → Int := fun i => sg (slopeQ (p i) (p (i + 1))).1
def lapsT (n : Nat) (p : Nat → Pt) : List Trip := lapsN (wayOf p) (n - 1)
end
def lbN (c : Int) : Nat → Int → Int × Bool
 | 0, o => (o, true)
 | k + 1, o => if o * c > 1000000000 then (0, false) else lbN c k (o * c)
def fullB (a b : Rt) : Bool := (a == (0, 1) && b == (1, 1)) || (a == (1, 1) && b == (0, 1))
section
variable {n : Nat} {p : Nat → Pt}
def fullN (p : Nat → Pt) (l : List Trip) : Nat := (l.filter fun t => fullB (p t.1).2 (p t.2.1).2).length
end
end Go.PV

/-
 Plain laws: marks on lists, and that they are held.
 Conditions: none.
-/
set_option linter.all false
namespace Go.PV
section
variable {α : Type}
theorem idxO_set {l : List α} {i : Nat} {x : α} (h : i < l.length) : idxO (l.set i x) (i : Int) = some x := by
 rw [idxO_nat, List.getElem?_set]; simp [h]
def marks (w : Nat) (f : Int → α) (n : Nat) (k : Int) : List α := tab n fun i => f (k + (w : Int) * i)
theorem marks_len (w : Nat) (f : Int → α) (n : Nat) (k : Int) : (marks w f n k).length = n := tab_len _ _
theorem mark_loop {body : (List α × Int × Int) → Option ((List α × Int × Int) ⊕ (List α × Int))} (w : Nat) (f : Int → α) (xs : List α) (k : Int) (hk : 0 ≤ k) (hk2 : k + w * xs.length ≤ 4611686018427387904)
  (h : ∀ (l : List α) (i : Nat) (c : Int), i < l.length → i < 4611686018427387904 → 0 ≤ c → c + w ≤ 4611686018427387904 → body (l, c, (i : Int)) = some (.inl (l.set i (f c), c + w, ((i + 1 : Nat) : Int))))
  (hl : xs.length ≤ 4611686018427387904) (h2 : ∀ l c, body (l, c, (l.length : Int)) = some (.inr (l, c))) : loopO body (xs, k, 0) = some (marks w f xs.length k, k + w * xs.length) := by
 have hx := loop_idx (body := body) xs.length (fun i => ((marks w f xs.length k).take i ++ xs.drop i, k + (w : Int) * i, (i : Int))) (marks w f xs.length k, k + w * xs.length) (fun i hi => by
  have hb : (w : Int) * i + w ≤ w * xs.length := by
   have : (w : Int) * ((i + 1 : Nat) : Int) ≤ w * xs.length := Int.mul_le_mul_of_nonneg_left (by omega) (by omega)
   rw [Int.natCast_add, Int.mul_add] at this
   simpa using this
  have hb0 : 0 ≤ (w : Int) * i := Int.mul_nonneg (by omega) (by omega)
  rw [h _ i _ (by simp [marks_len]; omega) (by omega) (by omega) (by omega)]
  rw [set_at _ _ _ (f (k + (w : Int) * i)) (by unfold marks; rw [tab_get hi]) hi]
  congr 3
  rw [Int.natCast_add, Int.mul_add]
  simp
  omega) (by
  have e : (marks w f xs.length k).take xs.length ++ xs.drop xs.length = marks w f xs.length k := by
   rw [List.drop_of_length_le (Nat.le_refl _), List.append_nil, List.take_of_length_le (by rw [marks_len]; exact Nat.le_refl _)]
  rw [e]
  have := h2 (marks w f xs.length k) (k + w * xs.length)
  rw [marks_len] at this
  exact this)
 simpa using hx
theorem held_loop {Y : Type} {body : (Int × Int) → Option ((Int × Int) ⊕ (Y ⊕ Int))} (w : Nat) (n : Nat) (k : Int) (hk : 0 ≤ k) (hk2 : k + w * n ≤ 4611686018427387904) (hn : n ≤ 4611686018427387904)
  (h : ∀ (i : Nat), i < n → 0 ≤ k + (w : Int) * i → k + (w : Int) * i + w ≤ 4611686018427387904 → body (k + (w : Int) * i, (i : Int)) = some (.inl (k + (w : Int) * i + w, ((i + 1 : Nat) : Int))))
  (h2 : ∀ c, body (c, (n : Int)) = some (.inr (.inr c))) : loopO body (k, 0) = some (.inr (k + w * n)) := by
 have hx := loop_idx (body := body) n (fun i => (k + (w : Int) * i, (i : Int))) (.inr (k + w * n)) (fun i hi => by
  have hb : (w : Int) * i + w ≤ w * n := by
   have : (w : Int) * ((i + 1 : Nat) : Int) ≤ w * n := Int.mul_le_mul_of_nonneg_left (by omega) (by omega)
   rw [Int.natCast_add, Int.mul_add] at this
   simpa using this
  have hb0 : 0 ≤ (w : Int) * i := Int.mul_nonneg (by omega) (by omega)
  rw [h i hi (by omega) (by omega)]
  congr 3
  rw [Int.natCast_add, Int.mul_add]
  simp
  omega) (h2 _)
 simpa using hx
end
def markI (n : Nat) (k : Int) : List Int := marks 1 (fun c => c) n k
def markR (n : Nat) (k : Int) : List (Int × Int) := marks 2 (fun c => (c, c + 1)) n k
end Go.PV

/-
 Plain laws: values of the turning point.
 Conditions: none.
-/
set_option linter.all false
namespace Go.PV
section
variable {n : Nat} {p : Nat → Pt}
noncomputable def vQ (n : Nat) (p : Nat → Pt) (c : Rt) : Nat → Option Rt
 | 0 => some c
 | k + 1 => (vQ n p c k).bind (atQ n p)
noncomputable def vv (n : Nat) (p : Nat → Pt) (c : Rt) (k : Nat) : Rt := (vQ n p c k).getD (0, 0)
variable {c : Rt}
structure Stop (n : Nat) (p : Nat → Pt) (c : Rt) (m L : Nat) : Prop where
 le : L ≤ m
 some : vQ n p c L = some (vv n p c L)
 stop : L = m ∨ vQ n p c (L + 1) = none
end
section
variable {n : Nat} {p : Nat → Pt} {t0 t1 : Trip}
end
theorem laws_markPointS_eq (xs : List Pt) (k : Int) (hk : 0 ≤ k) (hk2 : k + 4 * xs.length ≤ 4611686018427387904) : laws_markPointS xs k = some (k + 4 * xs.length, marks 4 (fun c => ((c, c + 1), (c + 1 + 1, c + 1 + 1 + 1))) xs.length k) := by
 unfold laws_markPointS
 rw [mark_loop 4 (fun c => ((c, c + 1), (c + 1 + 1, c + 1 + 1 + 1))) xs k hk (by omega) (fun l i c h1 h3 h4 h5 => by
  have h6 : ∀ x, i < (l.set i x).length := fun x => by simpa using h1
  simp only [laws_markPointS_b1, idxO_lt h1, idxO_set h1, List.set_set, Option.bind_some, show ((i : Int) < (l.length : Int)) from by omega, decide_true, if_true, Int.toNat_natCast, w64_nat (show i < 9223372036854775807 by omega), w64_id (n := c + 1) (by omega) (by omega), w64_id (n := c + 1 + 1) (by omega) (by omega), w64_id (n := c + 1 + 1 + 1) (by omega) (by omega), w64_id (n := c + 1 + 1 + 1 + 1) (by omega) (by omega)]
  congr 3
  simp; omega) (by omega) (fun l c => by simp [laws_markPointS_b1])]
 simp [laws_markPointS_k1]
end Go.PV

set_option linter.all false
namespace Go.PV
def flatP (xs : List Pt) (n : Nat) : Prop := ∃ i a b, 0 < i ∧ i < n ∧ xs[i - 1]? = some a ∧ xs[i]? = some b ∧ a.2 = b.2
end Go.PV

/-
 Plain laws: plateaus.
 Conditions: none.
-/
set_option linter.all false
namespace Go.PV
def markV (n : Nat) (k : Int) : List Pt := marks 4 (fun c => ((c, c + 1), (c + 1 + 1, c + 1 + 1 + 1))) n k
theorem laws_heldIntervalS_eq (n : Nat) (k : Int) (hk : 0 ≤ k) (hk2 : k + 4 * n ≤ 4611686018427387904) : laws_heldIntervalS (markV n k) k = some (k + 4 * n) := by
 unfold laws_heldIntervalS
 rw [held_loop (body := laws_heldIntervalS_b1 (markV n k)) 4 n k hk (by omega) (by omega) (fun i hi h3 h4 => by
  have e : idxO (markV n k) (i : Int) = some ((k + ((4 : Nat) : Int) * i, k + ((4 : Nat) : Int) * i + 1), (k + ((4 : Nat) : Int) * i + 1 + 1, k + ((4 : Nat) : Int) * i + 1 + 1 + 1)) := idxO_tab hi
  simp only [laws_heldIntervalS_b1, show (markV n k).length = n from marks_len _ _ _ _, e, Option.bind_some, show ((i : Int) < (n : Int)) from by omega, decide_true, if_true, w64_nat (show i < 9223372036854775807 by omega), bne_self_eq_false, Bool.false_eq_true, if_false, w64_id (n := k + ((4 : Nat) : Int) * (i : Int) + 1) (by omega) (by omega), w64_id (n := k + ((4 : Nat) : Int) * (i : Int) + 1 + 1) (by omega) (by omega), w64_id (n := k + ((4 : Nat) : Int) * (i : Int) + 1 + 1 + 1) (by omega) (by omega), w64_id (n := k + ((4 : Nat) : Int) * (i : Int) + 1 + 1 + 1 + 1) (by omega) (by omega)]
  congr 3; simp; omega) (fun c => by simp [laws_heldIntervalS_b1, show (markV n k).length = n from marks_len _ _ _ _])]
 simp [laws_heldIntervalS_k1]
theorem laws_markLift_eq (xs : List Pt) (k : Int) (hk : 0 ≤ k) (hk2 : k + 4 * xs.length ≤ 4611686018427387904) : laws_markLift xs k = some (k + 4 * xs.length, markV xs.length k) := laws_markPointS_eq xs k hk hk2
end Go.PV

/-
 Plain laws: lifts turned.
 Conditions: none.
-/
set_option linter.all false
namespace Go.PV
section
variable {n : Nat} {p : Nat → Pt} {y : Rt}
def tnO (p : Nat → Pt) (y : Rt) (i : Nat) : Option Rt := addQ (p i).2 y
def tnB (p : Nat → Pt) (y : Rt) (i : Nat) : Bool := (List.range i).any fun j => (tnO p y j).isNone
def tnP (p : Nat → Pt) (y : Rt) (i : Nat) : Pt := ((p i).1, (cK false (tnO p y i)).1)
end
theorem laws_heldLift_eq (n : Nat) (k : Int) (hk : 0 ≤ k) (hk2 : k + 4 * n ≤ 4611686018427387904) : laws_heldLift (markV n k) k = some (k + 4 * n) := by
 unfold laws_heldLift
 have h : laws_heldPointS (markV n k) k = some (k + 4 * n) := laws_heldIntervalS_eq n k hk hk2
 rw [h, Option.bind_some]
 simp only [show ¬ (k + 4 * (n : Int) < 0) from by omega, decide_false, Bool.false_eq_true, if_false]
end Go.PV

/-
 Plain laws: numerals.
 Conditions: none.
-/
set_option linter.all false
namespace Go.PV
def decB (n : Nat) : ByteArray := ⟨(Lib.decDigits n).toArray⟩
def ratB (r : Int × Int) : ByteArray := itoaB r.1 ++ ByteArray.mk #[47] ++ itoaB r.2
end Go.PV

/-
 Plain laws: texts of lifts.
 Conditions: none.
-/
set_option linter.all false
namespace Go.PV
def ptB (q : Pt) : ByteArray := ratB q.1 ++ ByteArray.mk #[32] ++ ratB q.2 ++ ByteArray.mk #[59]
def txtB : List Pt → ByteArray
 | [] => ByteArray.empty
 | q :: l => ptB q ++ txtB l
def ratP (q : Pt) : Bool := isRat q.1 && isRat q.2
theorem isLift_pts {f : List Pt} (h : isLift f = true) : f.all ratP = true ∧ f.length ≤ 12 ∧ 2 ≤ f.length := by
 obtain ⟨n, p, rfl, hT⟩ := isLift_tab h
 refine ⟨List.all_eq_true.2 fun q hq => ?_, by rw [tab_len]; exact hT.cur.hi, by rw [tab_len]; exact hT.cur.lo⟩
 obtain ⟨i, hi, rfl⟩ := tab_mem.1 hq
 simp only [ratP, Bool.and_eq_true]
 exact ⟨coord_rat (hT.cur.x i hi), (hT.cur.y i hi).1⟩
end Go.PV

/-
 Plain laws: FnExactReverseLift.
 Conditions: none.
-/
set_option linter.all false
namespace Go.PV
def revL (f : List Pt) : List Pt := f.reverse.map oppP
theorem spec_rev_loop (f : List Pt) (hl : f.length ≤ 1000000) : loopO (spec_ReverseLift_b1 f) ([], w64 ((f.length : Int) - 1)) = some (revL f) := by
 have hx := loop_idx (body := spec_ReverseLift_b1 f) f.length (fun i => ((revL f).take i, (f.length : Int) - 1 - i)) (revL f) (fun i hi => by
  have h1 : ((f.length : Int) - 1 - i) = ((f.length - 1 - i : Nat) : Int) := by omega
  have hlen : (revL f).length = f.length := by unfold revL; simp
  unfold spec_ReverseLift_b1
  rw [if_pos (by simp; omega), h1]
  simp only
  rw [idxO_lt (show f.length - 1 - i < f.length by omega)]
  simp only [Option.bind_some, spec_imMirror]
  rw [guardO_bind_pos (by rw [List.length_take]; simp; omega), List.take_succ_eq_append_getElem (by omega)]
  have e1 : (revL f)[i]'(by omega) = oppP (f[f.length - 1 - i]'(by omega)) := by unfold revL; simp
  have e2 : w64 (((f.length - 1 - i : Nat) : Int) - 1) = (f.length : Int) - 1 - ((i + 1 : Nat) : Int) := by rw [w64_id (by omega) (by omega)]; omega
  rw [e1, e2]
  rfl) (by
  unfold spec_ReverseLift_b1
  rw [if_neg (by simp; omega)]
  rw [List.take_of_length_le (by unfold revL; simp)])
 have e0 : w64 ((f.length : Int) - 1) = (f.length : Int) - 1 - ((0 : Nat) : Int) := by rw [w64_id (by omega) (by omega)]; omega
 rw [e0]
 exact hx
noncomputable def revR (f : List Pt) : List Pt × Bool := if isLift f = true then (if isLift (revL f) = true then (revL f, true) else ([], false)) else ([], false)
theorem both_ReverseLift (f : List Pt) (hl : f.length ≤ 1048576) : spec_ReverseLift f = some (revR f) ∧ impl_ReverseLift f = some (revR f) ∧ (revR f).1.length ≤ 1048576 := by
 obtain ⟨e1, e2⟩ := both_isLift f (by omega)
 have hlen : (revL f).length = f.length := by unfold revL; simp
 obtain ⟨e3, e4⟩ := both_isLift (revL f) (by omega)
 unfold spec_ReverseLift impl_ReverseLift revR
 rw [e1, e2]
 cases h : isLift f
 ·exact ⟨rfl, rfl, by simp⟩
 ·have h12 := (isLift_pts h).2.1
  simp only [Option.bind_some, Bool.not_true, Bool.false_eq_true, if_false, if_true, spec_rev_loop f (by omega), spec_ReverseLift_k1, spec_liIf, e3]
  rw [guardO_bind_pos (by omega), show f.reverse.map oppP = revL f from rfl, e4]
  cases isLift (revL f)
  ·exact ⟨rfl, rfl, by simp⟩
  ·exact ⟨rfl, rfl, by simpa [hlen] using hl⟩
theorem laws_FnExactReverseLift_eq (xs : List Pt) (hl : xs.length ≤ 9223372036854775807) : laws_FnExactReverseLift xs = some true := by
 obtain ⟨v, h1, h2⟩ := laws_szLift_eq xs hl
 unfold laws_FnExactReverseLift
 rw [h1, Option.bind_some]
 by_cases h : v < 0
 ·simp [h]
 ·have hm := h2 h
  obtain ⟨e1, e2, e3⟩ := both_ReverseLift xs hm
  generalize revR xs = r at e1 e2 e3
  have e7 : ¬ ((1 : Int) + 4 * (xs.length : Int) < 0) := by omega
  have e8 : ¬ ((1 : Int) + 4 * (r.1.length : Int) < 0) := by omega
  simp only [h, decide_false, Bool.false_eq_true, if_false, laws_toLift_eq xs (by omega), e1, e2, laws_eqLift_self xs (by omega), laws_eqLift_self r.1 (by omega), Option.bind_some, laws_markLift_eq xs 1 (by omega) (by omega), laws_markLift_eq r.1 1 (by omega) (by omega), e7, e8, laws_heldLift_eq r.1.length 1 (by omega) (by omega), beq_self_eq_true, Bool.not_true, Bool.or_self, bne_self_eq_false]
end Go.PV
