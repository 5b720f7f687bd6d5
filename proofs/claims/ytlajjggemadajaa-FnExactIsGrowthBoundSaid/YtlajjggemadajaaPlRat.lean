/-
  Plain laws: greatest divisors, fractions, floors, fractions reduced.
  Conditions: none.
-/
import Derived.Test.YtlajjggemadajaaPlBase
set_option linter.all false
namespace Go.PV
theorem toNat_gcd_step (a b : Nat) (hb : b ≠ 0) : Nat.gcd b (a % b) = Nat.gcd a b := by
  rw [Nat.gcd_comm a b, Nat.gcd_rec b a, Nat.gcd_comm]
theorem impl_gcd_loop (b : Nat) : ∀ a : Nat, loopO impl_greatestDivisor_b1 ((a : Int), (b : Int)) = some ((Nat.gcd a b : Nat) : Int) := by
  induction b using Nat.strongRecOn with
  | ind b ih =>
    intro a
    rw [loopO_eq]
    by_cases hb : b = 0
    · subst hb; simp [impl_greatestDivisor_b1]
    · have hb' : ((b : Int) != 0) = true := by simp; omega
      simp only [impl_greatestDivisor_b1, hb', if_true, guardO_bind_pos (show (b : Int) ≠ 0 by omega)]
      have : Int.tmod (a : Int) (b : Int) = ((a % b : Nat) : Int) := rfl
      rw [this, ih (a % b) (Nat.mod_lt _ (by omega)) b, toNat_gcd_step a b hb]
theorem spec_gcd_loop (b : Nat) : ∀ a : Nat, loopO spec_raCommon_b1 ((a : Int), (b : Int)) = some ((Nat.gcd a b : Nat) : Int) := by
  induction b using Nat.strongRecOn with
  | ind b ih =>
    intro a
    rw [loopO_eq]
    by_cases hb : b = 0
    · subst hb; simp [spec_raCommon_b1]
    · have hb' : decide ((b : Int) > 0) = true := by simp; omega
      simp only [spec_raCommon_b1, hb', if_true, guardO_bind_pos (show (b : Int) ≠ 0 by omega)]
      have : Int.tmod (a : Int) (b : Int) = ((a % b : Nat) : Int) := rfl
      rw [this, ih (a % b) (Nat.mod_lt _ (by omega)) b, toNat_gcd_step a b hb]
theorem impl_abs_eq (a : Int) (h : -9223372036854775808 < a) (h2 : a ≤ 9223372036854775807) : impl_abs a = some (a.natAbs : Int) := by
  unfold impl_abs
  by_cases ha : a < 0
  · simp only [ha, decide_true, if_true]; rw [w64_id (by omega) (by omega)]; congr 1; omega
  · simp only [ha, decide_false, Bool.false_eq_true, if_false]; congr 1; omega
theorem spec_l1Abs_eq (a : Int) (h : -9223372036854775808 < a) (h2 : a ≤ 9223372036854775807) : spec_l1Abs a = some (a.natAbs : Int) := by
  unfold spec_l1Abs spec_l1Most
  rw [w64_id (by omega) (by omega)]
  by_cases ha : a > 0 - a
  · simp only [ha, decide_true, if_true, Option.bind_some]; congr 1; omega
  · simp only [ha, decide_false, Bool.false_eq_true, if_false, Option.bind_some]; congr 1; omega
theorem impl_greatestDivisor_eq (a b : Int) (h : -9223372036854775808 < a) (h2 : a ≤ 9223372036854775807) (h3 : -9223372036854775808 < b) (h4 : b ≤ 9223372036854775807) :
    impl_greatestDivisor a b = some ((Int.gcd a b : Nat) : Int) := by
  simp only [impl_greatestDivisor, impl_abs_eq a h h2, impl_abs_eq b h3 h4, Option.bind_some, impl_gcd_loop, impl_greatestDivisor_k1]
  rfl
theorem spec_raCommon_eq (a b : Int) (h : 0 ≤ a) (h2 : 0 ≤ b) : spec_raCommon a b = some ((Int.gcd a b : Nat) : Int) := by
  obtain ⟨m, rfl⟩ := Int.eq_ofNat_of_zero_le h
  obtain ⟨n, rfl⟩ := Int.eq_ofNat_of_zero_le h2
  simp only [spec_raCommon]
  rw [spec_gcd_loop]
  rfl

/-- A fraction that is valid. -/
def isRat (r : Int × Int) : Bool := inB 1 1000000000 r.2 && (inB (-1000000000) 1000000000 r.1 && (Int.gcd r.1 r.2 : Int) == 1)
theorem isRat_iff {r : Int × Int} : isRat r = true ↔ 1 ≤ r.2 ∧ r.2 ≤ 1000000000 ∧ -1000000000 ≤ r.1 ∧ r.1 ≤ 1000000000 ∧ Int.gcd r.1 r.2 = 1 := by
  simp only [isRat, Bool.and_eq_true, inB_iff, beq_iff_eq]
  constructor
  · rintro ⟨⟨h1, h2⟩, ⟨h3, h4⟩, h5⟩; exact ⟨h1, h2, h3, h4, by omega⟩
  · rintro ⟨h1, h2, h3, h4, h5⟩; exact ⟨⟨h1, h2⟩, ⟨h3, h4⟩, by omega⟩
theorem impl_isRat_eq (r : Int × Int) : impl_isRat r = some (isRat r) := by
  unfold impl_isRat isRat
  simp only [impl_within_eq, Option.bind_some]
  cases h1 : inB 1 1000000000 r.2
  · rfl
  · cases h2 : inB (-1000000000) 1000000000 r.1
    · rfl
    · have h1' := inB_iff.1 h1
      have h2' := inB_iff.1 h2
      simp only [if_true, impl_greatestDivisor_eq r.1 r.2 (by omega) (by omega) (by omega) (by omega), Option.bind_some, Bool.true_and]
theorem spec_raGood_eq (r : Int × Int) : spec_raGood r = some (isRat r) := by
  unfold spec_raGood isRat
  simp only [spec_l1In_eq, Option.bind_some]
  cases h1 : inB 1 1000000000 r.2
  · rfl
  · cases h2 : inB (-1000000000) 1000000000 r.1
    · rfl
    · have h1' := inB_iff.1 h1
      have h2' := inB_iff.1 h2
      simp only [if_true, spec_l1Abs_eq r.1 (by omega) (by omega), spec_raCommon_eq _ r.2 (Int.natCast_nonneg _) (by omega), Option.bind_some, Bool.true_and]
      rfl
theorem impl_areRats_eq (l : List (Int × Int)) (hl : l.length ≤ 4611686018427387904) : impl_areRats l = some (l.all isRat) := by
  have h := loop_any (xs := l) (body := impl_areRats_b1 l) (fun x => !isRat x) (fun i => (i : Int)) (.inl false) (.inr ()) (fun i x hx => by
    have hi := getElem?_lt hx
    simp only [impl_areRats_b1, idxO_nat, hx, impl_isRat_eq, Option.bind_some, w64_nat (show i < 9223372036854775807 by omega), show ((i : Int) < (l.length : Int)) from by omega, decide_true, if_true]
    cases isRat x <;> rfl) (by simp [impl_areRats_b1])
  unfold impl_areRats
  rw [show (0 : Int) = ((0 : Nat) : Int) from rfl, h, List.any_eq_not_all_not]
  simp only [Bool.not_not]
  cases l.all isRat <;> rfl
/-- In lowest terms, if it is valid. -/
def lowest (n d : Int) : (Int × Int) × Bool :=
  let g := if d < 0 then -(Int.gcd n d : Int) else Int.gcd n d
  if isRat (Int.tdiv n g, Int.tdiv d g) then ((Int.tdiv n g, Int.tdiv d g), true) else ((0, 0), false)
theorem tdiv_w64 (n g : Int) (h : -9223372036854775808 < n) (h2 : n ≤ 9223372036854775807) (hg : g ≠ 0) : w64 (Int.tdiv n g) = Int.tdiv n g := by
  have h1 : (Int.tdiv n g).natAbs ≤ n.natAbs := by rw [Int.natAbs_tdiv]; exact Nat.div_le_self _ _
  exact w64_id (by omega) (by omega)
theorem impl_lowest_eq (n d : Int) (hd : d ≠ 0) (h : -9223372036854775808 < n) (h2 : n ≤ 9223372036854775807) (h3 : -9223372036854775808 < d) (h4 : d ≤ 9223372036854775807) : impl_lowest n d = some (lowest n d) := by
  have hg0 : Int.gcd n d ≠ 0 := by rw [Ne, Int.gcd_eq_zero_iff]; omega
  have hgl : (Int.gcd n d : Int) ≤ 9223372036854775807 := by
    have : Int.gcd n d ≤ d.natAbs := Nat.gcd_le_right _ (by omega)
    omega
  have key : ∀ g : Int, g ≠ 0 → impl_lowest_k1 n d g = some (if isRat (Int.tdiv n g, Int.tdiv d g) then ((Int.tdiv n g, Int.tdiv d g), true) else ((0, 0), false)) := fun g hg => by
    simp only [impl_lowest_k1, guardO_bind_pos hg, tdiv_w64 n g h h2 hg, tdiv_w64 d g h3 h4 hg, impl_isRat_eq, Option.bind_some]
    cases isRat (Int.tdiv n g, Int.tdiv d g) <;> rfl
  unfold impl_lowest lowest
  simp only [impl_greatestDivisor_eq n d h h2 h3 h4, Option.bind_some]
  by_cases hneg : d < 0
  · simp only [hneg, decide_true, if_true]
    rw [show (0 : Int) - (Int.gcd n d : Int) = -(Int.gcd n d : Int) by omega, w64_id (by omega) (by omega), key _ (by omega)]
  · simp only [hneg, decide_false, Bool.false_eq_true, if_false]
    rw [key _ (by omega)]
theorem mul_le_9 {a b : Int} (ha : -1000000000 ≤ a) (ha2 : a ≤ 1000000000) (hb : -1000000000 ≤ b) (hb2 : b ≤ 1000000000) : -1000000000000000000 ≤ a * b ∧ a * b ≤ 1000000000000000000 := by
  have h1 : (a * b).natAbs ≤ 1000000000 * 1000000000 := by
    rw [Int.natAbs_mul]; exact Nat.mul_le_mul (by omega) (by omega)
  omega
theorem impl_AddRats_eq (a b : Int × Int) : impl_AddRats a b = some (if isRat a && isRat b then lowest (a.1 * b.2 + b.1 * a.2) (a.2 * b.2) else ((0, 0), false)) := by
  unfold impl_AddRats
  rw [impl_areRats_eq _ (by simp)]
  simp only [Option.bind_some, List.all_cons, List.all_nil, Bool.and_true]
  cases ha : isRat a
  · rfl
  · cases hb : isRat b
    · rfl
    · obtain ⟨a1, a2, a3, a4, _⟩ := isRat_iff.1 ha
      obtain ⟨b1, b2, b3, b4, _⟩ := isRat_iff.1 hb
      have m1 := mul_le_9 a3 a4 (show -1000000000 ≤ b.2 by omega) b2
      have m2 := mul_le_9 b3 b4 (show -1000000000 ≤ a.2 by omega) a2
      have m3 := mul_le_9 (show -1000000000 ≤ a.2 by omega) a2 (show -1000000000 ≤ b.2 by omega) b2
      have hne : a.2 * b.2 ≠ 0 := Int.mul_ne_zero (by omega) (by omega)
      simp only [Bool.and_self, Bool.not_true, Bool.false_eq_true, if_false, if_true]
      rw [w64_id (n := a.1 * b.2) (by omega) (by omega), w64_id (n := b.1 * a.2) (by omega) (by omega), w64_id (n := a.1 * b.2 + b.1 * a.2) (by omega) (by omega), w64_id (n := a.2 * b.2) (by omega) (by omega), impl_lowest_eq _ _ hne (by omega) (by omega) (by omega) (by omega)]
      rfl
/-! ### reduced to the unit interval -/
def near (r : Int × Int) : Bool := isRat r && inB (-1000 * r.2) (1000 * r.2) r.1
theorem spec_liNear_eq (r : Int × Int) : spec_liNear r = some (near r) := by
  unfold spec_liNear near
  simp only [spec_raGood_eq, Option.bind_some, spec_l1In_eq]
  cases h : isRat r
  · rfl
  · obtain ⟨h1, h2, h3, h4, _⟩ := isRat_iff.1 h
    simp only [if_true, Option.bind_some, Bool.true_and]
    rw [w64_id (by omega) (by omega), w64_id (by omega) (by omega)]
def cmp (a b : Int × Int) : Int := if a.1 * b.2 < b.1 * a.2 then -1 else if a.1 * b.2 > b.1 * a.2 then 1 else 0
/-- Small enough that nothing wraps. -/
def tame (r : Int × Int) : Prop := -1000000000 ≤ r.1 ∧ r.1 ≤ 1000000000 ∧ -1000000000 ≤ r.2 ∧ r.2 ≤ 1000000000
theorem tame_of {r : Int × Int} (h : isRat r = true) : tame r := by
  obtain ⟨h1, h2, h3, h4, _⟩ := isRat_iff.1 h
  exact ⟨h3, h4, by omega, h2⟩
theorem impl_compare_eq (a b : Int × Int) (ha : tame a) (hb : tame b) : impl_compare a b = some (cmp a b) := by
  obtain ⟨a1, a2, a3, a4⟩ := ha
  obtain ⟨b1, b2, b3, b4⟩ := hb
  have m1 := mul_le_9 a1 a2 b3 b4
  have m2 := mul_le_9 b1 b2 a3 a4
  unfold impl_compare cmp
  rw [w64_id (n := a.1 * b.2) (by omega) (by omega), w64_id (n := b.1 * a.2) (by omega) (by omega)]
  by_cases h1 : a.1 * b.2 < b.1 * a.2
  · simp [h1]
  · by_cases h2 : a.1 * b.2 > b.1 * a.2
    · simp [h1, h2]
    · simp [h1, h2]
def less (a b : Int × Int) : Bool := decide (a.1 * b.2 < b.1 * a.2)
theorem impl_less_eq (a b : Int × Int) (ha : tame a) (hb : tame b) : impl_less a b = some (less a b) := by
  unfold impl_less less
  rw [impl_compare_eq a b ha hb]
  unfold cmp
  by_cases h1 : a.1 * b.2 < b.1 * a.2
  · simp [h1]
  · by_cases h2 : a.1 * b.2 > b.1 * a.2
    · simp [h1, h2]
    · simp [h1, h2]
theorem impl_isFar_eq (r : Int × Int) : impl_isFar r = some (near r) := by
  unfold impl_isFar near
  simp only [impl_isRat_eq, Option.bind_some, impl_whole]
  cases h : isRat r
  · rfl
  · have ht := tame_of h
    simp only [if_true, impl_less_eq r (-1000, 1) ht ⟨by decide, by decide, by decide, by decide⟩, impl_less_eq (1000, 1) r ⟨by decide, by decide, by decide, by decide⟩ ht, Option.bind_some, less, Bool.true_and, inB]
    simp only [Int.mul_one]
    by_cases h1 : r.1 < -1000 * r.2
    · have : ¬ (-1000 * r.2 ≤ r.1) := by omega
      simp [h1, this]
    · have h3 : -1000 * r.2 ≤ r.1 := by omega
      by_cases h2 : 1000 * r.2 < r.1
      · have : ¬ (r.1 ≤ 1000 * r.2) := by omega
        simp [h1, h2, h3, this]
      · have h4 : r.1 ≤ 1000 * r.2 := by omega
        simp [h1, h2, h3, h4]
/-- The greatest integer that is not greater than n / d, for d greater than 0. -/
def floorDiv (n d : Int) : Int := if Int.tmod n d < 0 then Int.tdiv n d - 1 else Int.tdiv n d
theorem floorDiv_spec (n d : Int) (hd : 0 < d) : floorDiv n d * d ≤ n ∧ n < floorDiv n d * d + d := by
  have h1 := Int.tmod_add_mul_tdiv n d
  have h2 := Int.tmod_lt_of_pos n hd
  have h3 : -d < Int.tmod n d := by
    have := Int.lt_tmod_of_pos n hd
    omega
  unfold floorDiv
  rw [Int.mul_comm] at h1
  split
  · rw [Int.sub_mul]; omega
  · omega
theorem tdiv_bound (n d : Int) : (Int.tdiv n d).natAbs ≤ n.natAbs := by rw [Int.natAbs_tdiv]; exact Nat.div_le_self _ _
theorem impl_floorDivide_eq (n d : Int) (hd : d ≠ 0) (h : -9223372036854775807 < n) (h2 : n ≤ 9223372036854775807) : impl_floorDivide n d = some (floorDiv n d) := by
  have h1 := tdiv_bound n d
  unfold impl_floorDivide floorDiv
  rw [guardO_bind_pos hd, w64_id (n := Int.tdiv n d) (by omega) (by omega), w64_id (n := Int.tdiv n d - 1) (by omega) (by omega)]
  by_cases h3 : Int.tmod n d < 0 <;> simp [h3]
theorem spec_raDown_eq (n d : Int) (hd : d ≠ 0) (h : -9223372036854775807 < n) (h2 : n ≤ 9223372036854775807) : spec_raDown n d = some (floorDiv n d) := by
  have h1 := tdiv_bound n d
  unfold spec_raDown floorDiv
  have : (d == 0) = false := by simpa using hd
  simp only [this, Bool.false_eq_true, if_false]
  rw [guardO_bind_pos hd, w64_id (n := Int.tdiv n d) (by omega) (by omega), w64_id (n := Int.tdiv n d - 1) (by omega) (by omega)]
  by_cases h3 : Int.tmod n d < 0 <;> simp [h3]
theorem lowest_of_isRat {r : Int × Int} (h : isRat r = true) : lowest r.1 r.2 = (r, true) := by
  obtain ⟨h1, h2, h3, h4, h5⟩ := isRat_iff.1 h
  unfold lowest
  have : ¬ r.2 < 0 := by omega
  simp only [this, if_false, h5]
  simp [h]
def reduceRat (r : Int × Int) : (Int × Int) × Bool := if near r then ((r.1 - floorDiv r.1 r.2 * r.2, r.2), true) else ((0, 0), false)
theorem spec_ReduceRat_eq (r : Int × Int) : spec_ReduceRat r = some (reduceRat r) := by
  unfold spec_ReduceRat reduceRat
  rw [spec_liNear_eq, Option.bind_some]
  cases h : near r
  · rfl
  · simp only [near, Bool.and_eq_true, inB_iff] at h
    obtain ⟨hr, h6, h7⟩ := h
    obtain ⟨h1, h2, h3, h4, h5⟩ := isRat_iff.1 hr
    have hf := floorDiv_spec r.1 r.2 (by omega)
    have hb := tdiv_bound r.1 r.2
    have hfb : -1000000001 ≤ floorDiv r.1 r.2 ∧ floorDiv r.1 r.2 ≤ 1000000000 := by unfold floorDiv; split <;> omega
    simp only [Bool.not_true, Bool.false_eq_true, if_false, if_true, spec_raFloor, spec_raDown_eq r.1 r.2 (by omega) (by omega) (by omega), Option.bind_some, spec_liPlus]
    rw [w64_id (n := 0 - floorDiv r.1 r.2) (by omega) (by omega)]
    have e : (0 - floorDiv r.1 r.2) * r.2 = -(floorDiv r.1 r.2 * r.2) := by rw [Int.sub_mul]; omega
    rw [e, w64_id (n := -(floorDiv r.1 r.2 * r.2)) (by omega) (by omega), w64_id (by omega) (by omega)]
    congr 3
theorem impl_ReduceRat_eq (r : Int × Int) : impl_ReduceRat r = some (reduceRat r) := by
  unfold impl_ReduceRat reduceRat
  rw [impl_isFar_eq, Option.bind_some]
  cases h : near r
  · rfl
  · simp only [near, Bool.and_eq_true, inB_iff] at h
    obtain ⟨hr, h6, h7⟩ := h
    obtain ⟨h1, h2, h3, h4, h5⟩ := isRat_iff.1 hr
    have hf := floorDiv_spec r.1 r.2 (by omega)
    have hfb : -1000 ≤ floorDiv r.1 r.2 ∧ floorDiv r.1 r.2 ≤ 1000 := by
      constructor
      · by_cases h : floorDiv r.1 r.2 < -1000
        · have : floorDiv r.1 r.2 * r.2 + r.2 ≤ -1000 * r.2 := by
            have : (floorDiv r.1 r.2 + 1) * r.2 ≤ -1000 * r.2 := Int.mul_le_mul_of_nonneg_right (by omega) (by omega)
            rw [Int.add_mul] at this; omega
          omega
        · omega
      · by_cases h : 1000 < floorDiv r.1 r.2
        · have : 1001 * r.2 ≤ floorDiv r.1 r.2 * r.2 := Int.mul_le_mul_of_nonneg_right (by omega) (by omega)
          omega
        · omega
    simp only [Bool.not_true, Bool.false_eq_true, if_false, if_true, impl_floor, impl_floorDivide_eq r.1 r.2 (by omega) (by omega) (by omega), Option.bind_some, impl_whole, impl_SubtractRats, impl_negated, impl_AddRats_eq]
    rw [w64_id (n := 0 - floorDiv r.1 r.2) (by omega) (by omega)]
    have hone : isRat (0 - floorDiv r.1 r.2, 1) = true := isRat_iff.2 ⟨by simp, by simp, by simp only []; omega, by simp only []; omega, by simp⟩
    simp only [hr, hone, Bool.and_self, if_true, Int.mul_one]
    have e : r.1 + (0 - floorDiv r.1 r.2) * r.2 = r.1 - floorDiv r.1 r.2 * r.2 := by rw [Int.sub_mul]; omega
    rw [e]
    have hres : isRat (r.1 - floorDiv r.1 r.2 * r.2, r.2) = true := isRat_iff.2 ⟨h1, h2, by simp only []; omega, by simp only []; omega, by
      simp only []
      rw [show r.1 - floorDiv r.1 r.2 * r.2 = r.1 + (-(floorDiv r.1 r.2)) * r.2 by rw [Int.neg_mul]; omega, Int.gcd_add_mul_right_left]
      exact h5⟩
    rw [lowest_of_isRat hres]
theorem laws_eqRat_self (r : Int × Int) : laws_eqRat r r = some true := by simp [laws_eqRat]
theorem laws_FnExactReduceRat_eq (r : Int × Int) : laws_FnExactReduceRat r = some true := by
  simp [laws_FnExactReduceRat, laws_toRat, spec_ReduceRat_eq, impl_ReduceRat_eq, laws_eqRat_self]
end Go.PV
