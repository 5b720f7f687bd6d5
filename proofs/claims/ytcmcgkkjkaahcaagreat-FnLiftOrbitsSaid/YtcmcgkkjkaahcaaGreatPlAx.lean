/-
  Plain laws of what the functions answer.
  Conditions: none.
-/
import Derived.KernelRfl
import Derived.Test.YtcmcgkkjkaahcaaGreatPvCx
import Derived.Test.YtcmcgkkjkaahcaaGreatDf
set_option linter.all false
/-
 Plain laws: bounds, lists of numbers, vectors.
 Conditions: none.
-/
namespace Go.PV
def inB (a b n : Int) : Bool := decide (a ≤ n) && decide (n ≤ b)
theorem inB_iff {a b n : Int} : inB a b n = true ↔ a ≤ n ∧ n ≤ b := by simp [inB]
theorem spec_l1In_eq (v a b : Int) : spec_l1In v a b = some (inB a b v) := rfl
theorem impl_within_eq (v a b : Int) : impl_within v a b = some (inB a b v) := rfl
def isVec (xs : List Int) : Bool := inB 1 8 xs.length && xs.all (inB 1 1000000)
end Go.PV

/-
 Plain laws: greatest divisors, fractions, floors, fractions reduced.
 Conditions: none.
-/
namespace Go.PV
theorem toNat_gcd_step (a b : Nat) (hb : b ≠ 0) : Nat.gcd b (a % b) = Nat.gcd a b := by
 rw [Nat.gcd_comm a b, Nat.gcd_rec b a, Nat.gcd_comm]
theorem impl_gcd_loop (b : Nat) : ∀ a : Nat, loopO impl_greatestDivisor_b1 ((a : Int), (b : Int)) = some ((Nat.gcd a b : Nat) : Int) := by
 induction b using Nat.strongRecOn with
 | ind b ih =>
  intro a
  rw [loopO_eq]
  by_cases hb : b = 0
  ·subst hb; simp [impl_greatestDivisor_b1]
  ·have hb' : ((b : Int) != 0) = true := by simp; omega
   simp only [impl_greatestDivisor_b1, hb', if_true, guardO_bind_pos (show (b : Int) ≠ 0 by omega)]
   have : Int.tmod (a : Int) (b : Int) = ((a % b : Nat) : Int) := rfl
   rw [this, ih (a % b) (Nat.mod_lt _ (by omega)) b, toNat_gcd_step a b hb]
theorem spec_gcd_loop (b : Nat) : ∀ a : Nat, loopO spec_raCommon_b1 ((a : Int), (b : Int)) = some ((Nat.gcd a b : Nat) : Int) := by
 induction b using Nat.strongRecOn with
 | ind b ih =>
  intro a
  rw [loopO_eq]
  by_cases hb : b = 0
  ·subst hb; simp [spec_raCommon_b1]
  ·have hb' : decide ((b : Int) > 0) = true := by simp; omega
   simp only [spec_raCommon_b1, hb', if_true, guardO_bind_pos (show (b : Int) ≠ 0 by omega)]
   have : Int.tmod (a : Int) (b : Int) = ((a % b : Nat) : Int) := rfl
   rw [this, ih (a % b) (Nat.mod_lt _ (by omega)) b, toNat_gcd_step a b hb]
theorem impl_abs_eq (a : Int) (h : -9223372036854775808 < a) (h2 : a ≤ 9223372036854775807) : impl_abs a = some (a.natAbs : Int) := by
 unfold impl_abs
 by_cases ha : a < 0
 ·simp only [ha, decide_true, if_true]; rw [w64_id (by omega) (by omega)]; congr 1; omega
 ·simp only [ha, decide_false, Bool.false_eq_true, if_false]; congr 1; omega
theorem spec_l1Abs_eq (a : Int) (h : -9223372036854775808 < a) (h2 : a ≤ 9223372036854775807) : spec_l1Abs a = some (a.natAbs : Int) := by
 unfold spec_l1Abs spec_l1Most
 rw [w64_id (by omega) (by omega)]
 by_cases ha : a > 0 - a
 ·simp only [ha, decide_true, if_true, Option.bind_some]; congr 1; omega
 ·simp only [ha, decide_false, Bool.false_eq_true, if_false, Option.bind_some]; congr 1; omega
theorem impl_greatestDivisor_eq (a b : Int) (h : -9223372036854775808 < a) (h2 : a ≤ 9223372036854775807) (h3 : -9223372036854775808 < b) (h4 : b ≤ 9223372036854775807) :
  impl_greatestDivisor a b = some ((Int.gcd a b : Nat) : Int) := by
 simp only [impl_greatestDivisor, impl_abs_eq a h h2, impl_abs_eq b h3 h4, Option.bind_some, impl_gcd_loop, impl_greatestDivisor_k1]
 rfl
theorem spec_raCommon_eq (a b : Int) (h : 0 ≤ a) (h2 : 0 ≤ b) : spec_raCommon a b = some ((Int.gcd a b : Nat) : Int) := by
 obtain ⟨m, rfl⟩ := Int.eq_ofNat_of_zero_le h
 obtain ⟨n, rfl⟩ := Int.eq_ofNat_of_zero_le h2
 simp only [spec_raCommon]
 rw [spec_gcd_loop]
 rfl
def isRat (r : Int × Int) : Bool := inB 1 1000000000 r.2 && (inB (-1000000000) 1000000000 r.1 && (Int.gcd r.1 r.2 : Int) == 1)
theorem isRat_iff {r : Int × Int} : isRat r = true ↔ 1 ≤ r.2 ∧ r.2 ≤ 1000000000 ∧ -1000000000 ≤ r.1 ∧ r.1 ≤ 1000000000 ∧ Int.gcd r.1 r.2 = 1 := by
 simp only [isRat, Bool.and_eq_true, inB_iff, beq_iff_eq]
 constructor
 ·rintro ⟨⟨h1, h2⟩, ⟨h3, h4⟩, h5⟩; exact ⟨h1, h2, h3, h4, by omega⟩
 ·rintro ⟨h1, h2, h3, h4, h5⟩; exact ⟨⟨h1, h2⟩, ⟨h3, h4⟩, by omega⟩
theorem impl_isRat_eq (r : Int × Int) : impl_isRat r = some (isRat r) := by
 unfold impl_isRat isRat
 simp only [impl_within_eq, Option.bind_some]
 cases h1 : inB 1 1000000000 r.2
 ·rfl
 ·cases h2 : inB (-1000000000) 1000000000 r.1
  ·rfl
  ·have h1' := inB_iff.1 h1
   have h2' := inB_iff.1 h2
   simp only [if_true, impl_greatestDivisor_eq r.1 r.2 (by omega) (by omega) (by omega) (by omega), Option.bind_some, Bool.true_and]
theorem spec_raGood_eq (r : Int × Int) : spec_raGood r = some (isRat r) := by
 unfold spec_raGood isRat
 simp only [spec_l1In_eq, Option.bind_some]
 cases h1 : inB 1 1000000000 r.2
 ·rfl
 ·cases h2 : inB (-1000000000) 1000000000 r.1
  ·rfl
  ·have h1' := inB_iff.1 h1
   have h2' := inB_iff.1 h2
   simp only [if_true, spec_l1Abs_eq r.1 (by omega) (by omega), spec_raCommon_eq _ r.2 (Int.natCast_nonneg _) (by omega), Option.bind_some, Bool.true_and]
   rfl
theorem impl_areRats_eq (l : List (Int × Int)) (hl : l.length ≤ 4611686018427387904) : impl_areRats l = some (l.all isRat) := by
 have h := loop_any (xs := l) (body := impl_areRats_b1 l) (fun x => !isRat x) (fun i => (i : Int)) (.inl false) (.inr ()) (fun i x hx => by
  have hi := getElem?_lt hx
  simp only [impl_areRats_b1, idxO_nat, hx, impl_isRat_eq, Option.bind_some, w64_nat (show i < 9223372036854775807 by omega), show ((i : Int) < (l.length : Int)) from by omega, decide_true, if_true]
  cases isRat x <;> rfl) (by simp [impl_areRats_b1])
 unfold impl_areRats
 rw [show (0 : Int) = ((0 : Nat) : Int) from rfl, h, List.any_eq_not_all_not]
 simp only [Bool.not_not]
 cases l.all isRat <;> rfl
def lowest (n d : Int) : (Int × Int) × Bool :=
 let g := if d < 0 then -(Int.gcd n d : Int) else Int.gcd n d
 if isRat (Int.tdiv n g, Int.tdiv d g) then ((Int.tdiv n g, Int.tdiv d g), true) else ((0, 0), false)
theorem tdiv_w64 (n g : Int) (h : -9223372036854775808 < n) (h2 : n ≤ 9223372036854775807) (hg : g ≠ 0) : w64 (Int.tdiv n g) = Int.tdiv n g := by
 have h1 : (Int.tdiv n g).natAbs ≤ n.natAbs := by rw [Int.natAbs_tdiv]; exact Nat.div_le_self _ _
 exact w64_id (by omega) (by omega)
theorem impl_lowest_eq (n d : Int) (hd : d ≠ 0) (h : -9223372036854775808 < n) (h2 : n ≤ 9223372036854775807) (h3 : -9223372036854775808 < d) (h4 : d ≤ 9223372036854775807) : impl_lowest n d = some (lowest n d) := by
 have hg0 : Int.gcd n d ≠ 0 := by rw [Ne, Int.gcd_eq_zero_iff]; omega
 have hgl : (Int.gcd n d : Int) ≤ 9223372036854775807 := by
  have : Int.gcd n d ≤ d.natAbs := Nat.gcd_le_right _ (by omega)
  omega
 have key : ∀ g : Int, g ≠ 0 → impl_lowest_k1 n d g = some (if isRat (Int.tdiv n g, Int.tdiv d g) then ((Int.tdiv n g, Int.tdiv d g), true) else ((0, 0), false)) := fun g hg => by
  simp only [impl_lowest_k1, guardO_bind_pos hg, tdiv_w64 n g h h2 hg, tdiv_w64 d g h3 h4 hg, impl_isRat_eq, Option.bind_some]
  cases isRat (Int.tdiv n g, Int.tdiv d g) <;> rfl
 unfold impl_lowest lowest
 simp only [impl_greatestDivisor_eq n d h h2 h3 h4, Option.bind_some]
 by_cases hneg : d < 0
 ·simp only [hneg, decide_true, if_true]
  rw [show (0 : Int) - (Int.gcd n d : Int) = -(Int.gcd n d : Int) by omega, w64_id (by omega) (by omega), key _ (by omega)]
 ·simp only [hneg, decide_false, Bool.false_eq_true, if_false]
  rw [key _ (by omega)]
theorem mul_le_9 {a b : Int} (ha : -1000000000 ≤ a) (ha2 : a ≤ 1000000000) (hb : -1000000000 ≤ b) (hb2 : b ≤ 1000000000) : -1000000000000000000 ≤ a * b ∧ a * b ≤ 1000000000000000000 := by
 have h1 : (a * b).natAbs ≤ 1000000000 * 1000000000 := by
  rw [Int.natAbs_mul]; exact Nat.mul_le_mul (by omega) (by omega)
 omega
theorem impl_AddRats_eq (a b : Int × Int) : impl_AddRats a b = some (if isRat a && isRat b then lowest (a.1 * b.2 + b.1 * a.2) (a.2 * b.2) else ((0, 0), false)) := by
 unfold impl_AddRats
 rw [impl_areRats_eq _ (by simp)]
 simp only [Option.bind_some, List.all_cons, List.all_nil, Bool.and_true]
 cases ha : isRat a
 ·rfl
 ·cases hb : isRat b
  ·rfl
  ·obtain ⟨a1, a2, a3, a4, _⟩ := isRat_iff.1 ha
   obtain ⟨b1, b2, b3, b4, _⟩ := isRat_iff.1 hb
   have m1 := mul_le_9 a3 a4 (show -1000000000 ≤ b.2 by omega) b2
   have m2 := mul_le_9 b3 b4 (show -1000000000 ≤ a.2 by omega) a2
   have m3 := mul_le_9 (show -1000000000 ≤ a.2 by omega) a2 (show -1000000000 ≤ b.2 by omega) b2
   have hne : a.2 * b.2 ≠ 0 := Int.mul_ne_zero (by omega) (by omega)
   simp only [Bool.and_self, Bool.not_true, Bool.false_eq_true, if_false, if_true]
   rw [w64_id (n := a.1 * b.2) (by omega) (by omega), w64_id (n := b.1 * a.2) (by omega) (by omega), w64_id (n := a.1 * b.2 + b.1 * a.2) (by omega) (by omega), w64_id (n := a.2 * b.2) (by omega) (by omega), impl_lowest_eq _ _ hne (by omega) (by omega) (by omega) (by omega)]
   rfl
def near (r : Int × Int) : Bool := isRat r && inB (-1000 * r.2) (1000 * r.2) r.1
theorem spec_liNear_eq (r : Int × Int) : spec_liNear r = some (near r) := by
 unfold spec_liNear near
 simp only [spec_raGood_eq, Option.bind_some, spec_l1In_eq]
 cases h : isRat r
 ·rfl
 ·obtain ⟨h1, h2, h3, h4, _⟩ := isRat_iff.1 h
  simp only [if_true, Option.bind_some, Bool.true_and]
  rw [w64_id (by omega) (by omega), w64_id (by omega) (by omega)]
def cmp (a b : Int × Int) : Int := if a.1 * b.2 < b.1 * a.2 then -1 else if a.1 * b.2 > b.1 * a.2 then 1 else 0
def tame (r : Int × Int) : Prop := -1000000000 ≤ r.1 ∧ r.1 ≤ 1000000000 ∧ -1000000000 ≤ r.2 ∧ r.2 ≤ 1000000000
theorem tame_of {r : Int × Int} (h : isRat r = true) : tame r := by
 obtain ⟨h1, h2, h3, h4, _⟩ := isRat_iff.1 h
 exact ⟨h3, h4, by omega, h2⟩
theorem impl_compare_eq (a b : Int × Int) (ha : tame a) (hb : tame b) : impl_compare a b = some (cmp a b) := by
 obtain ⟨a1, a2, a3, a4⟩ := ha
 obtain ⟨b1, b2, b3, b4⟩ := hb
 have m1 := mul_le_9 a1 a2 b3 b4
 have m2 := mul_le_9 b1 b2 a3 a4
 unfold impl_compare cmp
 rw [w64_id (n := a.1 * b.2) (by omega) (by omega), w64_id (n := b.1 * a.2) (by omega) (by omega)]
 by_cases h1 : a.1 * b.2 < b.1 * a.2
 ·simp [h1]
 ·by_cases h2 : a.1 * b.2 > b.1 * a.2
  ·simp [h1, h2]
  ·simp [h1, h2]
def less (a b : Int × Int) : Bool := decide (a.1 * b.2 < b.1 * a.2)
theorem impl_less_eq (a b : Int × Int) (ha : tame a) (hb : tame b) : impl_less a b = some (less a b) := by
 unfold impl_less less
 rw [impl_compare_eq a b ha hb]
 unfold cmp
 by_cases h1 : a.1 * b.2 < b.1 * a.2
 ·simp [h1]
 ·by_cases h2 : a.1 * b.2 > b.1 * a.2
  ·simp [h1, h2]
  ·simp [h1, h2]
theorem impl_isFar_eq (r : Int × Int) : impl_isFar r = some (near r) := by
 unfold impl_isFar near
 simp only [impl_isRat_eq, Option.bind_some, impl_whole]
 cases h : isRat r
 ·rfl
 ·have ht := tame_of h
  simp only [if_true, impl_less_eq r (-1000, 1) ht ⟨by decide, by decide, by decide, by decide⟩, impl_less_eq (1000, 1) r ⟨by decide, by decide, by decide, by decide⟩ ht, Option.bind_some, less, Bool.true_and, inB]
  simp only [Int.mul_one]
  by_cases h1 : r.1 < -1000 * r.2
  ·have : ¬ (-1000 * r.2 ≤ r.1) := by omega
   simp [h1, this]
  ·have h3 : -1000 * r.2 ≤ r.1 := by omega
   by_cases h2 : 1000 * r.2 < r.1
   ·have : ¬ (r.1 ≤ 1000 * r.2) := by omega
    simp [h1, h2, h3, this]
   ·have h4 : r.1 ≤ 1000 * r.2 := by omega
    simp [h1, h2, h3, h4]
def floorDiv (n d : Int) : Int := if Int.tmod n d < 0 then Int.tdiv n d - 1 else Int.tdiv n d
theorem floorDiv_spec (n d : Int) (hd : 0 < d) : floorDiv n d * d ≤ n ∧ n < floorDiv n d * d + d := by
 have h1 := Int.tmod_add_mul_tdiv n d
 have h2 := Int.tmod_lt_of_pos n hd
 have h3 : -d < Int.tmod n d := by
  have := Int.lt_tmod_of_pos n hd
  omega
 unfold floorDiv
 rw [Int.mul_comm] at h1
 split
 ·rw [Int.sub_mul]; omega
 ·omega
theorem tdiv_bound (n d : Int) : (Int.tdiv n d).natAbs ≤ n.natAbs := by rw [Int.natAbs_tdiv]; exact Nat.div_le_self _ _
theorem impl_floorDivide_eq (n d : Int) (hd : d ≠ 0) (h : -9223372036854775807 < n) (h2 : n ≤ 9223372036854775807) : impl_floorDivide n d = some (floorDiv n d) := by
 have h1 := tdiv_bound n d
 unfold impl_floorDivide floorDiv
 rw [guardO_bind_pos hd, w64_id (n := Int.tdiv n d) (by omega) (by omega), w64_id (n := Int.tdiv n d - 1) (by omega) (by omega)]
 by_cases h3 : Int.tmod n d < 0 <;> simp [h3]
theorem spec_raDown_eq (n d : Int) (hd : d ≠ 0) (h : -9223372036854775807 < n) (h2 : n ≤ 9223372036854775807) : spec_raDown n d = some (floorDiv n d) := by
 have h1 := tdiv_bound n d
 unfold spec_raDown floorDiv
 have : (d == 0) = false := by simpa using hd
 simp only [this, Bool.false_eq_true, if_false]
 rw [guardO_bind_pos hd, w64_id (n := Int.tdiv n d) (by omega) (by omega), w64_id (n := Int.tdiv n d - 1) (by omega) (by omega)]
 by_cases h3 : Int.tmod n d < 0 <;> simp [h3]
theorem lowest_of_isRat {r : Int × Int} (h : isRat r = true) : lowest r.1 r.2 = (r, true) := by
 obtain ⟨h1, h2, h3, h4, h5⟩ := isRat_iff.1 h
 unfold lowest
 have : ¬ r.2 < 0 := by omega
 simp only [this, if_false, h5]
 simp [h]
def reduceRat (r : Int × Int) : (Int × Int) × Bool := if near r then ((r.1 - floorDiv r.1 r.2 * r.2, r.2), true) else ((0, 0), false)
end Go.PV

set_option linter.all false
namespace Go.PV
abbrev Pt := (Int × Int) × (Int × Int)
def zP : Pt := ((0, 0), (0, 0))
theorem slices_IndexFunc_Limpl_Point_impl_Point_eq (xs : List Pt) (f : Pt → Option Bool) (p : Pt → Bool) (hf : ∀ x, f x = some (p x)) (hl : xs.length ≤ 4611686018427387904) :
  slices_IndexFunc_Limpl_Point_impl_Point xs f = some (match xs.findIdx? p with | some i => (i : Int) | none => -1) := by
 have h := loop_first (xs := xs) (body := slices_IndexFunc_Limpl_Point_impl_Point_b1 xs f) p (fun i => (i : Int)) (fun i => .inl (i : Int)) (.inr ()) (fun i x hx => by
  have hi := getElem?_lt hx
  simp only [slices_IndexFunc_Limpl_Point_impl_Point_b1, idxO_nat, hx, hf, Option.bind_some, w64_nat (show i < 9223372036854775807 by omega), show ((i : Int) < (xs.length : Int)) from by omega, decide_true, if_true]
  cases p x <;> rfl) (by simp [slices_IndexFunc_Limpl_Point_impl_Point_b1])
 unfold slices_IndexFunc_Limpl_Point_impl_Point
 rw [show (0 : Int) = ((0 : Nat) : Int) from rfl, h]
 cases xs.findIdx? p <;> rfl
theorem slices_ContainsFunc_Limpl_Point_impl_Point_eq (xs : List Pt) (f : Pt → Option Bool) (p : Pt → Bool) (hf : ∀ x, f x = some (p x)) (hl : xs.length ≤ 4611686018427387904) : slices_ContainsFunc_Limpl_Point_impl_Point xs f = some (xs.any p) := by
 simp only [slices_ContainsFunc_Limpl_Point_impl_Point, slices_IndexFunc_Limpl_Point_impl_Point_eq xs f p hf hl, Option.bind_some]
 cases h : xs.findIdx? p with
 | none =>
  have hn := List.findIdx?_eq_none_iff.1 h
  have : xs.any p = false := by simpa using hn
  simp [this]
 | some m =>
  obtain ⟨hm, hp, _⟩ := List.findIdx?_eq_some_iff_getElem.1 h
  have : xs.any p = true := List.any_eq_true.2 ⟨xs[m], List.getElem_mem hm, hp⟩
  simp [this]
theorem spec_raCmp_eq (a b : Int × Int) (ha : tame a) (hb : tame b) : spec_raCmp a b = some (cmp a b) := by
 obtain ⟨a1, a2, a3, a4⟩ := ha
 obtain ⟨b1, b2, b3, b4⟩ := hb
 have m1 := mul_le_9 a1 a2 b3 b4
 have m2 := mul_le_9 b1 b2 a3 a4
 unfold spec_raCmp spec_l1Sign cmp
 rw [w64_id (n := a.1 * b.2) (by omega) (by omega), w64_id (n := b.1 * a.2) (by omega) (by omega), w64_id (n := a.1 * b.2 - b.1 * a.2) (by omega) (by omega)]
 by_cases h1 : a.1 * b.2 < b.1 * a.2
 ·have : ¬ (a.1 * b.2 - b.1 * a.2 > 0) := by omega
  have h3 : a.1 * b.2 - b.1 * a.2 < 0 := by omega
  simp [h1, h3]; omega
 ·by_cases h2 : a.1 * b.2 > b.1 * a.2
  ·have : a.1 * b.2 - b.1 * a.2 > 0 := by omega
   simp [h1, h2, this]
  ·have h3 : ¬ (a.1 * b.2 - b.1 * a.2 > 0) := by omega
   have h4 : ¬ (a.1 * b.2 - b.1 * a.2 < 0) := by omega
   simp [h1, h2, h3, h4]
theorem cmp_ge (a b : Int × Int) : decide (cmp a b ≥ 0) = !less a b := by
 unfold cmp less
 by_cases h1 : a.1 * b.2 < b.1 * a.2
 ·simp [h1]
 ·by_cases h2 : a.1 * b.2 > b.1 * a.2 <;> simp [h1, h2]
theorem cmp_gt (a b : Int × Int) : decide (cmp a b > 0) = less b a := by
 unfold cmp less
 by_cases h1 : a.1 * b.2 < b.1 * a.2
 ·have : ¬ b.1 * a.2 < a.1 * b.2 := by omega
  simp [h1, this]
 ·by_cases h2 : a.1 * b.2 > b.1 * a.2
  ·simp [h1, h2]
  ·have : ¬ b.1 * a.2 < a.1 * b.2 := by omega
   simp [h1, h2]
theorem cmp_zero (a b : Int × Int) : (cmp a b == 0) = (a.1 * b.2 == b.1 * a.2) := by
 unfold cmp
 by_cases h1 : a.1 * b.2 < b.1 * a.2
 ·have : ¬ a.1 * b.2 = b.1 * a.2 := by omega
  simp [h1, this]
 ·by_cases h2 : a.1 * b.2 > b.1 * a.2
  ·have : ¬ a.1 * b.2 = b.1 * a.2 := by omega
   simp [h1, h2, this]
  ·have : a.1 * b.2 = b.1 * a.2 := by omega
   simp [this]
def isUnit (r : Int × Int) : Bool := isRat r && inB 0 r.2 r.1
def coord (r : Int × Int) : Bool := isUnit r && decide (r.2 ≤ 100)
theorem spec_raUnit_eq (r : Int × Int) : spec_raUnit r = some (isUnit r) := by
 unfold spec_raUnit isUnit
 simp only [spec_raGood_eq, Option.bind_some, spec_l1In_eq]
 cases isRat r <;> simp
theorem impl_isUnit_eq (r : Int × Int) : impl_isUnit r = some (isUnit r) := by
 simp [impl_isUnit, impl_isRat_eq, isUnit, inB]
theorem spec_imCoord_eq (r : Int × Int) : spec_imCoord r = some (coord r) := by simp [spec_imCoord, spec_raUnit_eq, coord]
theorem impl_isCoord_eq (r : Int × Int) : impl_isCoord r = some (coord r) := by simp [impl_isCoord, impl_isUnit_eq, coord]
theorem coord_rat {r : Int × Int} (h : coord r = true) : isRat r = true := by
 simp only [coord, isUnit, Bool.and_eq_true] at h
 exact h.1.1
def goodPt (p : Pt) : Bool := coord p.1 && (isRat p.2 && (decide (p.2.2 ≤ 100) && inB (-5 * p.2.2) (5 * p.2.2) p.2.1))
theorem goodPt_tame {p : Pt} (h : goodPt p = true) : isRat p.1 = true ∧ isRat p.2 = true := by
 simp only [goodPt, Bool.and_eq_true] at h
 exact ⟨coord_rat h.1, h.2.1⟩
theorem impl_isLift_1_eq (p : Pt) : impl_isLift_1 p = some (!goodPt p) := by
 unfold impl_isLift_1 goodPt
 simp only [impl_isCoord_eq, impl_isRat_eq, impl_whole, Option.bind_some]
 cases h1 : coord p.1
 ·simp
 ·cases h : isRat p.2
  ·simp
  ·have ht := tame_of h
   obtain ⟨h2, h3, h4, h5, _⟩ := isRat_iff.1 h
   by_cases h6 : p.2.2 > 100
   ·have : ¬ p.2.2 ≤ 100 := by omega
    simp [h6, this]
   ·have h7 : p.2.2 ≤ 100 := by omega
    simp only [Bool.not_true, Bool.false_eq_true, if_false, h6, h7, decide_false, decide_true, impl_less_eq p.2 (-5, 1) ht ⟨by decide, by decide, by decide, by decide⟩, impl_less_eq (5, 1) p.2 ⟨by decide, by decide, by decide, by decide⟩ ht, Option.bind_some, less, Bool.true_and, inB]
    simp only [Int.mul_one]
    by_cases h8 : p.2.1 < -5 * p.2.2
    ·have : ¬ (-5 * p.2.2 ≤ p.2.1) := by omega
     simp [h8, this]
    ·have h9 : -5 * p.2.2 ≤ p.2.1 := by omega
     by_cases h10 : 5 * p.2.2 < p.2.1
     ·have : ¬ (p.2.1 ≤ 5 * p.2.2) := by omega
      simp [h8, h9, h10, this]
     ·have h11 : p.2.1 ≤ 5 * p.2.2 := by omega
      simp [h8, h9, h10, h11]
def stepPt (a b : Pt) : Bool := less a.1 b.1 && !less b.2 a.2
def steps (xs : List Pt) (n : Nat) : Prop := ∀ i a b, 0 < i → i < n → xs[i - 1]? = some a → xs[i]? = some b → stepPt a b = true
theorem steps_succ {xs : List Pt} {i : Nat} {a b : Pt} (h : steps xs i) (ha : xs[i - 1]? = some a) (hb : xs[i]? = some b) (hs : stepPt a b = true) : steps xs (i + 1) := by
 intro j c d h1 h2 h3 h4
 by_cases hj : j = i
 ·subst hj; rw [ha] at h3; rw [hb] at h4; cases h3; cases h4; exact hs
 ·exact h j c d h1 (by omega) h3 h4
def ends (xs : List Pt) : Bool := match xs[0]?, xs[xs.length - 1]? with
 | some a, some b => (a.1 == (0, 1)) && ((b.1 == (1, 1)) && (b.2 == (a.2.1 + a.2.2, a.2.2)))
 | _, _ => false
open Classical in
noncomputable def isLift (xs : List Pt) : Bool := inB 2 12 xs.length && (decide (xs.all goodPt = true ∧ steps xs xs.length) && ends xs)
end Go.PV

/-
 Plain laws: lists and tables by their places.
 Conditions: none.
-/
namespace Go.PV
section
variable {α β : Type}
def tab (n : Nat) (f : Nat → α) : List α := (List.range n).map f
theorem tab_len (n : Nat) (f : Nat → α) : (tab n f).length = n := by simp [tab]
theorem tab_get {n i : Nat} {f : Nat → α} (h : i < n) : (tab n f)[i]? = some (f i) := by simp [tab, h]
theorem tab_get_none {n i : Nat} {f : Nat → α} (h : n ≤ i) : (tab n f)[i]? = none := by simp [tab, h]
theorem idxO_tab {n i : Nat} {f : Nat → α} (h : i < n) : idxO (tab n f) (i : Int) = some (f i) := by rw [idxO_nat, tab_get h]
theorem tab_ext {n : Nat} {f g : Nat → α} (h : ∀ i, i < n → f i = g i) : tab n f = tab n g := List.map_congr_left fun i hi => h i (List.mem_range.1 hi)
theorem tab_succ (n : Nat) (f : Nat → α) : tab n f ++ [f n] = tab (n + 1) f := by simp [tab, List.range_succ]
theorem tab_eta [Inhabited α] (xs : List α) : xs = tab xs.length (fun i => xs.getD i default) := by
 apply List.ext_getElem?
 intro j
 by_cases hj : j < xs.length
 ·rw [tab_get hj]; simp [hj]
 ·rw [tab_get_none (by omega)]; simp; omega
def mat (n m : Nat) (f : Nat → Nat → α) : List (List α) := tab n fun i => tab m (f i)
def foldN (n : Nat) (g : β → Nat → β) (s : β) : β := (List.range n).foldl g s
theorem foldN_succ (n : Nat) (g : β → Nat → β) (s : β) : foldN (n + 1) g s = g (foldN n g s) n := by simp [foldN, List.range_succ]
theorem foldN_zero (g : β → Nat → β) (s : β) : foldN 0 g s = s := rfl
end
end Go.PV

/-
 Plain laws: graphs, numbers of walks.
 Conditions: none.
-/
namespace Go.PV
def sized (g : List (List Int)) : Prop := g.length ≤ 1048576 ∧ ∀ row ∈ g, row.length ≤ 1048576
def isGraph (g : List (List Int)) : Bool := inB 1 8 g.length && g.all fun row => (row.length : Int) == g.length && row.all (inB 0 9)
end Go.PV

/-
 Plain laws: powers of graphs' tables, numbers of all walks.
 Conditions: none.
-/
namespace Go.PV
def capMul (most acc w a : Int) : Int := if most < w64 (acc + w64 (w * a)) then most else w64 (acc + w64 (w * a))
def powStep (n : Nat) (G : Nat → Nat → Int) (most : Int) (F : Nat → Nat → Int) : Nat → Nat → Int := fun i j => foldN n (fun acc k => capMul most acc (F i k) (G k j)) 0
def idM : Nat → Nat → Int := fun i j => if i = j then 1 else 0
def powN (n : Nat) (G : Nat → Nat → Int) (most : Int) : Nat → Nat → Nat → Int
 | 0 => idM
 | m + 1 => powStep n G most (powN n G most m)
section impl
variable {n : Nat} {G : Nat → Nat → Int} {most : Int}
end impl
section spec
variable {n : Nat} {G : Nat → Nat → Int}
end spec
def capAt (x : Int) : Int := if 1000000001 < x then 1000000001 else x
def total (g : List (List Int)) : Int := (g.map List.sum).sum
def totalWalks (g : List (List Int)) (m : Int) : Int × Bool :=
 if isGraph g && inB 0 12 m then
  let t := total (mat g.length g.length (powN g.length (fun i j => (g.getD i []).getD j 0) 1000000001 m.toNat))
  if t > 1000000000 then (0, false) else (t, true)
 else (0, false)
end Go.PV

set_option linter.all false
namespace Go.PV
theorem lowest_isRat {n d : Int} (h1 : 0 ≤ n) (h2 : n ≤ 1000000000) (h3 : 1 ≤ d) (h4 : d ≤ 1000000000) : isRat (lowest n d).1 = true := by
 have hg : 0 < Int.gcd n d := Int.gcd_pos_of_ne_zero_right _ (by omega)
 have key : isRat (Int.tdiv n (Int.gcd n d : Int), Int.tdiv d (Int.gcd n d : Int)) = true := by
  obtain ⟨a, rfl⟩ := Int.eq_ofNat_of_zero_le h1
  obtain ⟨b, rfl⟩ := Int.eq_ofNat_of_zero_le (show 0 ≤ d by omega)
  have e : Int.gcd (a : Int) (b : Int) = Nat.gcd a b := rfl
  rw [e] at hg ⊢
  have e1 : Int.tdiv (a : Int) ((Nat.gcd a b : Nat) : Int) = ((a / Nat.gcd a b : Nat) : Int) := by rw [Int.tdiv_eq_ediv_of_nonneg (by omega)]; rfl
  have e2 : Int.tdiv (b : Int) ((Nat.gcd a b : Nat) : Int) = ((b / Nat.gcd a b : Nat) : Int) := by rw [Int.tdiv_eq_ediv_of_nonneg (by omega)]; rfl
  rw [e1, e2, isRat_iff]
  have l1 : a / Nat.gcd a b ≤ a := Nat.div_le_self _ _
  have l2 : b / Nat.gcd a b ≤ b := Nat.div_le_self _ _
  have l3 : 0 < b / Nat.gcd a b := Nat.div_pos (Nat.le_of_dvd (by omega) (Nat.gcd_dvd_right a b)) hg
  have l4 : ((a / Nat.gcd a b : Nat) : Int) ≤ 1000000000 := by omega
  have l5 : ((b / Nat.gcd a b : Nat) : Int) ≤ 1000000000 := by omega
  have l6 : 1 ≤ ((b / Nat.gcd a b : Nat) : Int) := by omega
  have l7 : 0 ≤ ((a / Nat.gcd a b : Nat) : Int) := Int.natCast_nonneg _
  generalize hA : ((a / Nat.gcd a b : Nat) : Int) = A at l4 l7 ⊢
  generalize hB : ((b / Nat.gcd a b : Nat) : Int) = B at l5 l6 ⊢
  refine ⟨l6, l5, by show -1000000000 ≤ A; omega, l4, ?_⟩
  rw [← hA, ← hB]
  exact Nat.coprime_div_gcd_div_gcd hg
 have hdn : ¬ d < 0 := by omega
 unfold lowest
 simp only [if_neg hdn]
 rw [if_pos key]
 exact key
theorem cmp_same {a b : Int × Int} (ha : isRat a = true) (hb : isRat b = true) (h : a.1 * b.2 = b.1 * a.2) : a = b := by
 obtain ⟨a1, a2, a3, a4, a5⟩ := isRat_iff.1 ha
 obtain ⟨b1, b2, b3, b4, b5⟩ := isRat_iff.1 hb
 obtain ⟨p, q⟩ := a
 obtain ⟨r, s⟩ := b
 simp only at *
 have hn : p.natAbs * s.natAbs = r.natAbs * q.natAbs := by rw [← Int.natAbs_mul, ← Int.natAbs_mul, h]
 have c1 : Nat.Coprime p.natAbs q.natAbs := a5
 have c2 : Nat.Coprime r.natAbs s.natAbs := b5
 have d1 : s.natAbs ∣ q.natAbs := by
  have : s.natAbs ∣ r.natAbs * q.natAbs := ⟨p.natAbs, by rw [← hn]; exact Nat.mul_comm _ _⟩
  exact c2.symm.dvd_of_dvd_mul_left this
 have d2 : q.natAbs ∣ s.natAbs := by
  have : q.natAbs ∣ p.natAbs * s.natAbs := ⟨r.natAbs, by rw [hn]; exact Nat.mul_comm _ _⟩
  exact c1.symm.dvd_of_dvd_mul_left this
 have hqs : q.natAbs = s.natAbs := Nat.dvd_antisymm d2 d1
 have hq : q = s := by omega
 subst hq
 have : p = r := Int.eq_of_mul_eq_mul_right (by omega) h
 rw [this]
def dotN (G : Nat → Int) (v : Nat → Int) (n : Nat) : Int := foldN n (fun s j => s + G j * v j) 0
end Go.PV

/-
 Plain laws: sums, products and quotients of fractions, with what is too large told.
 Conditions: none.
-/
set_option linter.all false
namespace Go.PV
abbrev Rt := Int × Int
def unO : Option Rt → Rt × Bool
 | some r => (r, true)
 | none => ((0, 0), false)
def lowQ (n d : Int) : Option Rt := if (lowest n d).2 = true then some (lowest n d).1 else none
theorem lowest_form (n d : Int) : ∃ x : Rt, lowest n d = if isRat x = true then (x, true) else ((0, 0), false) := ⟨_, rfl⟩
theorem lowest_no {n d : Int} (h : (lowest n d).2 = false) : lowest n d = ((0, 0), false) := by
 obtain ⟨x, e⟩ := lowest_form n d
 rw [e] at h ⊢
 by_cases h2 : isRat x = true
 ·rw [if_pos h2] at h; cases h
 ·rw [if_neg h2]
theorem lowest_unO (n d : Int) : lowest n d = unO (lowQ n d) := by
 unfold lowQ
 cases h : (lowest n d).2
 ·rw [lowest_no h]; rfl
 ·have : lowest n d = ((lowest n d).1, (lowest n d).2) := rfl
  rw [this, h]; rfl
theorem lowest_rat {n d : Int} (h : (lowest n d).2 = true) : isRat (lowest n d).1 = true := by
 obtain ⟨x, e⟩ := lowest_form n d
 rw [e] at h ⊢
 by_cases h2 : isRat x = true
 ·rw [if_pos h2]; exact h2
 ·rw [if_neg h2] at h; cases h
theorem lowQ_rat {n d : Int} {r : Rt} (h : lowQ n d = some r) : isRat r = true := by
 unfold lowQ at h
 split at h
 ·rename_i h2; obtain rfl := Option.some.inj h; exact lowest_rat h2
 ·cases h
theorem spec_raMake_gen (n d : Int) (hd : d ≠ 0) (h1 : -4000000000000000000 ≤ n) (h2 : n ≤ 4000000000000000000) (h3 : -4000000000000000000 ≤ d) (h4 : d ≤ 4000000000000000000) : spec_raMake n d = some (unO (lowQ n d)) := by
 have hg : 0 < Int.gcd n d := Int.gcd_pos_of_ne_zero_right _ hd
 have hd0 : (d == 0) = false := by simpa using hd
 have hgl : (Int.gcd n d : Int) ≤ 4000000000000000000 := by
  have : Int.gcd n d ≤ d.natAbs := Nat.gcd_le_right _ (by omega)
  omega
 have e : Int.gcd (n.natAbs : Int) (d.natAbs : Int) = Int.gcd n d := rfl
 have key : ∀ g : Int, g ≠ 0 → spec_raMake_k1 n d g = some (if isRat (Int.tdiv n g, Int.tdiv d g) then ((Int.tdiv n g, Int.tdiv d g), true) else ((0, 0), false)) := fun g hg => by
  simp only [spec_raMake_k1, guardO_bind_pos hg, tdiv_w64 n g (by omega) (by omega) hg, tdiv_w64 d g (by omega) (by omega) hg, spec_raGood_eq, Option.bind_some]
  cases isRat (Int.tdiv n g, Int.tdiv d g) <;> rfl
 rw [← lowest_unO]
 unfold spec_raMake lowest
 simp only [hd0, Bool.false_eq_true, if_false, spec_l1Abs_eq n (by omega) (by omega), spec_l1Abs_eq d (by omega) (by omega), Option.bind_some, spec_raCommon_eq (n.natAbs : Int) (d.natAbs : Int) (by omega) (by omega), e]
 by_cases hneg : d < 0
 ·simp only [hneg, decide_true, if_true]
  rw [show (0 : Int) - (Int.gcd n d : Int) = -(Int.gcd n d : Int) by omega, w64_id (by omega) (by omega), key _ (by omega)]
 ·simp only [hneg, decide_false, Bool.false_eq_true, if_false]
  rw [key _ (by omega)]
def addQ (a b : Rt) : Option Rt := lowQ (a.1 * b.2 + b.1 * a.2) (a.2 * b.2)
def subQ (a b : Rt) : Option Rt := lowQ (a.1 * b.2 - b.1 * a.2) (a.2 * b.2)
def mulQ (a b : Rt) : Option Rt := lowQ (a.1 * b.1) (a.2 * b.2)
def divQ (a b : Rt) : Option Rt := if b.1 = 0 then none else lowQ (a.1 * b.2) (a.2 * b.1)
theorem addQ_rat {a b r : Rt} (h : addQ a b = some r) : isRat r = true := lowQ_rat h
theorem subQ_rat {a b r : Rt} (h : subQ a b = some r) : isRat r = true := lowQ_rat h
theorem mulQ_rat {a b r : Rt} (h : mulQ a b = some r) : isRat r = true := lowQ_rat h
structure RB (a b : Rt) : Prop where
 m1 : -1000000000000000000 ≤ a.1 * b.2 ∧ a.1 * b.2 ≤ 1000000000000000000
 m2 : -1000000000000000000 ≤ b.1 * a.2 ∧ b.1 * a.2 ≤ 1000000000000000000
 m3 : -1000000000000000000 ≤ a.2 * b.2 ∧ a.2 * b.2 ≤ 1000000000000000000
 m4 : -1000000000000000000 ≤ a.1 * b.1 ∧ a.1 * b.1 ≤ 1000000000000000000
 ne : a.2 * b.2 ≠ 0
 m5 : -1000000000000000000 ≤ a.2 * b.1 ∧ a.2 * b.1 ≤ 1000000000000000000
theorem rb {a b : Rt} (ha : isRat a = true) (hb : isRat b = true) : RB a b := by
 obtain ⟨a1, a2, a3, a4, _⟩ := isRat_iff.1 ha
 obtain ⟨b1, b2, b3, b4, _⟩ := isRat_iff.1 hb
 exact ⟨mul_le_9 a3 a4 (by omega) b2, mul_le_9 b3 b4 (by omega) a2, mul_le_9 (by omega) a2 (by omega) b2, mul_le_9 a3 a4 b3 b4, Int.mul_ne_zero (by omega) (by omega), mul_le_9 (by omega) a2 b3 b4⟩
section spec
variable {a b : Rt} (ha : isRat a = true) (hb : isRat b = true)
include ha hb
theorem spec_raAdd_eq : spec_raAdd a b = some (unO (addQ a b)) := by
 obtain ⟨m1, m2, m3, m4, ne, m5⟩ := rb ha hb
 unfold spec_raAdd addQ
 rw [w64_id (n := a.1 * b.2) (by omega) (by omega), w64_id (n := b.1 * a.2) (by omega) (by omega), w64_id (n := a.2 * b.2) (by omega) (by omega), w64_id (by omega) (by omega), spec_raMake_gen _ _ ne (by omega) (by omega) (by omega) (by omega)]
 rfl
theorem spec_raSub_eq : spec_raSub a b = some (unO (subQ a b)) := by
 obtain ⟨m1, m2, m3, m4, ne, m5⟩ := rb ha hb
 unfold spec_raSub subQ
 rw [w64_id (n := a.1 * b.2) (by omega) (by omega), w64_id (n := b.1 * a.2) (by omega) (by omega), w64_id (n := a.2 * b.2) (by omega) (by omega), w64_id (by omega) (by omega), spec_raMake_gen _ _ ne (by omega) (by omega) (by omega) (by omega)]
 rfl
theorem spec_raMul_eq : spec_raMul a b = some (unO (mulQ a b)) := by
 obtain ⟨m1, m2, m3, m4, ne, m5⟩ := rb ha hb
 unfold spec_raMul mulQ
 rw [w64_id (n := a.1 * b.1) (by omega) (by omega), w64_id (n := a.2 * b.2) (by omega) (by omega), spec_raMake_gen _ _ ne (by omega) (by omega) (by omega) (by omega)]
 rfl
theorem spec_raDiv_eq : spec_raDiv a b = some (unO (divQ a b)) := by
 obtain ⟨m1, m2, m3, m4, ne, m5⟩ := rb ha hb
 obtain ⟨a1, _⟩ := isRat_iff.1 ha
 unfold spec_raDiv divQ
 by_cases h : b.1 = 0
 ·simp [h, unO]
 ·have h' : (b.1 == 0) = false := by simpa using h
  simp only [h', Bool.false_eq_true, if_false, h]
  rw [w64_id (n := a.1 * b.2) (by omega) (by omega), w64_id (n := a.2 * b.1) (by omega) (by omega), spec_raMake_gen _ _ (Int.mul_ne_zero (by omega) h) (by omega) (by omega) (by omega) (by omega)]
  rfl
end spec
def cK (bad : Bool) : Option Rt → Rt × Bool
 | some r => (r, bad)
 | none => ((0, 1), true)
theorem impl_keep_eq (bad : Bool) (o : Option Rt) : impl_calc_keep bad (unO o).1 (unO o).2 = some (cK bad o) := by
 cases o <;> simp [impl_calc_keep, unO, cK, impl_zero]
theorem cK_rat {bad : Bool} {o : Option Rt} (h : ∀ r, o = some r → isRat r = true) : isRat (cK bad o).1 = true := by
 cases o with
 | some r => exact h r rfl
 | none => exact (by decide : isRat (0, 1) = true)
theorem isRat_one : isRat (1, 1) = true := by decide
theorem isRat_neg {a : Rt} (h : isRat a = true) : isRat (0 - a.1, a.2) = true := by
 obtain ⟨h1, h2, h3, h4, h5⟩ := isRat_iff.1 h
 refine isRat_iff.2 ⟨h1, h2, by show -1000000000 ≤ 0 - a.1; omega, by show 0 - a.1 ≤ _; omega, ?_⟩
 show Int.gcd (0 - a.1) a.2 = 1
 rw [Int.zero_sub, Int.neg_gcd]; exact h5
section impl
variable {a b : Rt} (bad : Bool) (ha : isRat a = true) (hb : isRat b = true)
include ha hb
theorem impl_AddRats_q : impl_AddRats a b = some (unO (addQ a b)) := by
 rw [impl_AddRats_eq, ha, hb]
 simp only [Bool.and_self, if_true]
 rw [lowest_unO]; rfl
theorem impl_SubtractRats_q : impl_SubtractRats a b = some (unO (subQ a b)) := by
 obtain ⟨b1, b2, b3, b4, _⟩ := isRat_iff.1 hb
 unfold impl_SubtractRats impl_negated
 rw [w64_id (by omega) (by omega), Option.bind_some, impl_AddRats_q ha (isRat_neg hb), Option.bind_some]
 congr 2
 unfold addQ subQ
 simp only
 congr 1
 rw [Int.sub_mul]; omega
theorem impl_MultiplyRats_q : impl_MultiplyRats a b = some (unO (mulQ a b)) := by
 obtain ⟨m1, m2, m3, m4, ne, m5⟩ := rb ha hb
 unfold impl_MultiplyRats mulQ
 rw [impl_areRats_eq _ (by simp)]
 simp only [Option.bind_some, List.all_cons, List.all_nil, Bool.and_true, ha, hb, Bool.and_self, Bool.not_true, Bool.false_eq_true, if_false]
 rw [w64_id (n := a.1 * b.1) (by omega) (by omega), w64_id (n := a.2 * b.2) (by omega) (by omega), impl_lowest_eq _ _ ne (by omega) (by omega) (by omega) (by omega), lowest_unO]
 rfl
theorem impl_DivideRats_q : impl_DivideRats a b = some (unO (divQ a b)) := by
 obtain ⟨m1, m2, m3, m4, ne, m5⟩ := rb ha hb
 obtain ⟨a1, _⟩ := isRat_iff.1 ha
 unfold impl_DivideRats divQ
 rw [impl_areRats_eq _ (by simp)]
 simp only [Option.bind_some, List.all_cons, List.all_nil, Bool.and_true, ha, hb, Bool.and_self, Bool.not_true, Bool.false_or]
 by_cases h : b.1 = 0
 ·simp [h, unO]
 ·have h' : (b.1 == 0) = false := by simpa using h
  simp only [h', Bool.false_eq_true, if_false, h]
  rw [w64_id (n := a.1 * b.2) (by omega) (by omega), w64_id (n := a.2 * b.1) (by omega) (by omega), impl_lowest_eq _ _ (Int.mul_ne_zero (by omega) h) (by omega) (by omega) (by omega) (by omega), lowest_unO]
  rfl
theorem impl_add_eq : impl_calc_add bad a b = some (cK bad (addQ a b)) := by
 unfold impl_calc_add; rw [impl_AddRats_q ha hb, Option.bind_some, impl_keep_eq]; rfl
theorem impl_sub_eq : impl_calc_sub bad a b = some (cK bad (subQ a b)) := by
 unfold impl_calc_sub; rw [impl_SubtractRats_q ha hb, Option.bind_some, impl_keep_eq]; rfl
theorem impl_mul_eq : impl_calc_mul bad a b = some (cK bad (mulQ a b)) := by
 unfold impl_calc_mul; rw [impl_MultiplyRats_q ha hb, Option.bind_some, impl_keep_eq]; rfl
theorem impl_div_eq : impl_calc_div bad a b = some (cK bad (divQ a b)) := by
 unfold impl_calc_div; rw [impl_DivideRats_q ha hb, Option.bind_some, impl_keep_eq]; rfl
end impl
def absR (r : Rt) : Rt := ((r.1.natAbs : Int), r.2)
def distQ (a b : Rt) : Option Rt := if less a b then subQ b a else subQ a b
theorem lowQ_neg {n d : Int} (hd : 0 < d) : lowQ (-n) d = (lowQ n d).map fun r => (-r.1, r.2) := by
 have hn : ¬ d < 0 := by omega
 have e : isRat (Int.tdiv (-n) (Int.gcd n d : Int), Int.tdiv d (Int.gcd n d : Int)) = isRat (Int.tdiv n (Int.gcd n d : Int), Int.tdiv d (Int.gcd n d : Int)) := by
  rw [Int.neg_tdiv]
  cases h : isRat (Int.tdiv n (Int.gcd n d : Int), Int.tdiv d (Int.gcd n d : Int))
  ·cases h2 : isRat (-Int.tdiv n (Int.gcd n d : Int), Int.tdiv d (Int.gcd n d : Int))
   ·rfl
   ·have := isRat_neg h2
    simp only [Int.zero_sub, Int.neg_neg] at this
    rw [h] at this; cases this
  ·have := isRat_neg h
   simp only [Int.zero_sub] at this
   exact this
 unfold lowQ lowest
 simp only [Int.neg_gcd, if_neg hn, e]
 cases isRat (Int.tdiv n (Int.gcd n d : Int), Int.tdiv d (Int.gcd n d : Int))
 ·rfl
 ·simp [Int.neg_tdiv]
theorem den_pos {a b : Rt} (ha : isRat a = true) (hb : isRat b = true) : 0 < a.2 * b.2 := Int.mul_pos (by have := (isRat_iff.1 ha).1; omega) (by have := (isRat_iff.1 hb).1; omega)
end Go.PV

set_option linter.all false
namespace Go.PV
theorem spec_bad_eq {α : Type} (p : Pt) (f : Bool → Option α) : ((spec_imCoord p.1).bind fun v16 =>
  (if (!v16) = true then
    some true
   else
    (spec_raGood p.2).bind fun v17 =>
    if (!v17) = true then
     some true
    else
     if (decide (p.2.2 > 100)) = true then
      some true
     else
      (spec_l1In p.2.1 (w64 ((-5) * p.2.2)) (w64 (5 * p.2.2))).bind fun v18 =>
      some (!v18)).bind f) = f (!goodPt p) := by
 unfold goodPt
 simp only [spec_imCoord_eq, spec_raGood_eq, Option.bind_some]
 cases h1 : coord p.1
 ·simp
 ·cases h : isRat p.2
  ·simp
  ·obtain ⟨h2, h3, h4, h5, _⟩ := isRat_iff.1 h
   by_cases h6 : p.2.2 > 100
   ·have : ¬ p.2.2 ≤ 100 := by omega
    simp [h6, this]
   ·have h7 : p.2.2 ≤ 100 := by omega
    rw [w64_id (by omega) (by omega), w64_id (by omega) (by omega)]
    simp [h6, h7, spec_l1In_eq]
theorem spec_liGood_loop (xs : List Pt) (hl : xs.length ≤ 4611686018427387904) :
  ∃ y, loopO (spec_liGood_b1 xs) 0 = some y ∧ ((y = .inl false ∧ ¬ (xs.all goodPt = true ∧ steps xs xs.length)) ∨ (y = .inr () ∧ xs.all goodPt = true ∧ steps xs xs.length)) := by
 refine loop_run (fun x => ∃ i : Nat, x = (i : Int) ∧ i ≤ xs.length ∧ (∀ j p, j < i → xs[j]? = some p → goodPt p = true) ∧ steps xs i) (fun x => xs.length - x.toNat) (fun (y : Bool ⊕ Unit) => (y = .inl false ∧ ¬ (xs.all goodPt = true ∧ steps xs xs.length)) ∨ (y = .inr () ∧ xs.all goodPt = true ∧ steps xs xs.length)) ?_ 0 ⟨0, rfl, by omega, fun j p h => by omega, fun i a b h1 h2 => by omega⟩
 rintro _ ⟨i, rfl, hi, hg, hs⟩
 by_cases hlt : i < xs.length
 ·have hx := idxO_lt hlt
  obtain ⟨p, hp⟩ : ∃ p, xs[i]? = some p := ⟨xs[i], List.getElem?_eq_getElem hlt⟩
  unfold spec_liGood_b1
  simp only [show ((i : Int) < (xs.length : Int)) from by omega, decide_true, if_true, idxO_nat, hp, Option.bind_some]
  rw [spec_bad_eq]
  cases hgp : goodPt p
  ·refine .inr ⟨.inl false, by simp, .inl ⟨rfl, fun h => ?_⟩⟩
   have := List.all_eq_true.1 h.1 p (List.mem_of_getElem? hp)
   rw [hgp] at this; cases this
  ·simp only [Bool.not_true, Bool.false_eq_true, if_false]
   have hg' : ∀ j q, j < i + 1 → xs[j]? = some q → goodPt q = true := fun j q h1 h2 => by
    by_cases hj : j = i
    ·subst hj; rw [hp] at h2; cases h2; exact hgp
    ·exact hg j q (by omega) h2
   by_cases hi0 : i = 0
   ·subst hi0
    refine .inl ⟨((0 + 1 : Nat) : Int), ?_, ⟨0 + 1, rfl, by omega, hg', fun i a b h1 h2 => by omega⟩, by simp; omega⟩
    simp [w64_nat (show 0 < 9223372036854775807 by omega)]
    rfl
   ·have hpos : ((i : Int) > 0) := by omega
    have hw : w64 ((i : Int) - 1) = ((i - 1 : Nat) : Int) := by rw [w64_id (by omega) (by omega)]; omega
    have hlt2 : i - 1 < xs.length := by omega
    obtain ⟨q, hq⟩ : ∃ q, xs[i - 1]? = some q := ⟨xs[i - 1], List.getElem?_eq_getElem hlt2⟩
    have hgq := hg (i - 1) q (by omega) hq
    obtain ⟨p1, p2⟩ := goodPt_tame hgp
    obtain ⟨q1, q2⟩ := goodPt_tame hgq
    simp only [hpos, decide_true, if_true, hw, idxO_nat, hq, Option.bind_some, spec_raCmp_eq q.1 p.1 (tame_of q1) (tame_of p1), spec_raCmp_eq q.2 p.2 (tame_of q2) (tame_of p2), cmp_ge, cmp_gt]
    by_cases hst : stepPt q p = true
    ·have h5 : less q.1 p.1 = true ∧ less p.2 q.2 = false := by simpa [stepPt] using hst
     refine .inl ⟨((i + 1 : Nat) : Int), ?_, ⟨i + 1, rfl, by omega, hg', steps_succ hs hq hp hst⟩, by simp; omega⟩
     simp [h5.1, h5.2, w64_nat (show i < 9223372036854775807 by omega)]
    ·refine .inr ⟨.inl false, ?_, .inl ⟨rfl, fun h => hst (h.2 i q p (by omega) hlt hq hp)⟩⟩
     cases h6 : less q.1 p.1
     ·simp
     ·cases h7 : less p.2 q.2
      ·simp [stepPt, h6, h7] at hst
      ·simp
 ·have he : i = xs.length := by omega
  subst he
  refine .inr ⟨.inr (), by simp [spec_liGood_b1], .inr ⟨rfl, ?_, hs⟩⟩
  rw [List.all_eq_true]
  intro p hp
  obtain ⟨j, hj, rfl⟩ := List.mem_iff_getElem.1 hp
  exact hg j _ hj (List.getElem?_eq_getElem hj)
theorem impl_isLift_loop (xs : List Pt) (hl : xs.length ≤ 4611686018427387904) (h2 : 1 ≤ xs.length) (hall : xs.all goodPt = true) :
  ∃ y, loopO (impl_isLift_b1 xs) 1 = some y ∧ ((y = .inl false ∧ ¬ steps xs xs.length) ∨ (y = .inr () ∧ steps xs xs.length)) := by
 refine loop_run (fun x => ∃ i : Nat, x = (i : Int) ∧ 1 ≤ i ∧ i ≤ xs.length ∧ steps xs i) (fun x => xs.length - x.toNat) (fun (y : Bool ⊕ Unit) => (y = .inl false ∧ ¬ steps xs xs.length) ∨ (y = .inr () ∧ steps xs xs.length)) ?_ 1 ⟨1, rfl, by omega, by omega, fun i a b h1 h2 => by omega⟩
 rintro _ ⟨i, rfl, hi0, hi, hs⟩
 by_cases hlt : i < xs.length
 ·obtain ⟨p, hp⟩ : ∃ p, xs[i]? = some p := ⟨xs[i], List.getElem?_eq_getElem hlt⟩
  have hgp := List.all_eq_true.1 hall p (List.mem_of_getElem? hp)
  have hw : w64 ((i : Int) - 1) = ((i - 1 : Nat) : Int) := by rw [w64_id (by omega) (by omega)]; omega
  have hlt2 : i - 1 < xs.length := by omega
  obtain ⟨q, hq⟩ : ∃ q, xs[i - 1]? = some q := ⟨xs[i - 1], List.getElem?_eq_getElem hlt2⟩
  have hgq := List.all_eq_true.1 hall q (List.mem_of_getElem? hq)
  obtain ⟨p1, p2⟩ := goodPt_tame hgp
  obtain ⟨q1, q2⟩ := goodPt_tame hgq
  unfold impl_isLift_b1
  simp only [show ((i : Int) < (xs.length : Int)) from by omega, decide_true, if_true, hw, idxO_nat, hp, hq, Option.bind_some, impl_less_eq q.1 p.1 (tame_of q1) (tame_of p1), impl_less_eq p.2 q.2 (tame_of p2) (tame_of q2)]
  by_cases hst : stepPt q p = true
  ·have h5 : less q.1 p.1 = true ∧ less p.2 q.2 = false := by simpa [stepPt] using hst
   refine .inl ⟨((i + 1 : Nat) : Int), ?_, ⟨i + 1, rfl, by omega, by omega, steps_succ hs hq hp hst⟩, by simp; omega⟩
   simp [h5.1, h5.2, w64_nat (show i < 9223372036854775807 by omega)]
  ·refine .inr ⟨.inl false, ?_, .inl ⟨rfl, fun h => hst (h i q p (by omega) hlt hq hp)⟩⟩
   cases h6 : less q.1 p.1
   ·simp
   ·cases h7 : less p.2 q.2
    ·simp [stepPt, h6, h7] at hst
    ·simp
 ·have he : i = xs.length := by omega
  subst he
  exact .inr ⟨.inr (), by simp [impl_isLift_b1], .inr ⟨rfl, hs⟩⟩
theorem zero_iff {r : Int × Int} (h : isRat r = true) : (r.1 * 1 == 0 * r.2) = (r == (0, 1)) := by
 obtain ⟨h1, h2, h3, h4, h5⟩ := isRat_iff.1 h
 obtain ⟨n, d⟩ := r
 simp only [Int.mul_one, Int.zero_mul]
 by_cases hn : n = 0
 ·subst hn
  have h6 : d.natAbs = 1 := by simpa using h5
  have h7 : d = 1 := by omega
  subst h7; rfl
 ·have e1 : (n == 0) = false := by simpa using hn
  have e2 : ((n, d) == ((0, 1) : Int × Int)) = false := by simp [hn]
  rw [e1, e2]
theorem one_iff {r : Int × Int} (h : isRat r = true) : (r.1 * 1 == 1 * r.2) = (r == (1, 1)) := by
 obtain ⟨h1, h2, h3, h4, h5⟩ := isRat_iff.1 h
 obtain ⟨n, d⟩ := r
 simp only [Int.mul_one, Int.one_mul]
 by_cases hn : n = d
 ·subst hn
  have h6 : n.natAbs = 1 := by simpa using h5
  have h7 : n = 1 := by omega
  subst h7; rfl
 ·by_cases h6 : n = 1
  ·subst h6; have : ¬ d = 1 := fun e => hn e.symm
   have e1 : ((1 : Int) == d) = false := by simpa using hn
   have e2 : (((1 : Int), d) == ((1, 1) : Int × Int)) = false := by simp [this]
   rw [e1, e2]
  ·have e1 : (n == d) = false := by simpa using hn
   have e2 : ((n, d) == ((1, 1) : Int × Int)) = false := by simp [h6]
   rw [e1, e2]
theorem pair_beq (a b : Int × Int) : ((a.1 == b.1) && (a.2 == b.2)) = (a == b) := by
 obtain ⟨a1, a2⟩ := a; obtain ⟨b1, b2⟩ := b; rfl
theorem ends_aux (xs : List Pt) (hl : 2 ≤ xs.length) (hm : xs.length ≤ 12) (hall : xs.all goodPt = true) : spec_liGood_k1 xs () = some (ends xs) ∧ impl_isLift_k1 xs () = some (ends xs) := by
 have hlt : 0 < xs.length := by omega
 have hlt2 : xs.length - 1 < xs.length := by omega
 obtain ⟨a, ha⟩ : ∃ a, xs[0]? = some a := ⟨xs[0], List.getElem?_eq_getElem hlt⟩
 obtain ⟨b, hb⟩ : ∃ b, xs[xs.length - 1]? = some b := ⟨xs[xs.length - 1], List.getElem?_eq_getElem hlt2⟩
 have hw : w64 ((xs.length : Int) - 1) = ((xs.length - 1 : Nat) : Int) := by rw [w64_id (by omega) (by omega)]; omega
 have hga := goodPt_tame (List.all_eq_true.1 hall a (List.mem_of_getElem? ha))
 have hgb := goodPt_tame (List.all_eq_true.1 hall b (List.mem_of_getElem? hb))
 obtain ⟨h2, h3, h4, h5, _⟩ := isRat_iff.1 hga.2
 have t0 : tame (0, 1) := ⟨by decide, by decide, by decide, by decide⟩
 have t1 : tame (1, 1) := ⟨by decide, by decide, by decide, by decide⟩
 have z0 : idxO xs 0 = some a := by rw [show (0 : Int) = ((0 : Nat) : Int) from rfl, idxO_nat, ha]
 have e1 : w64 (1 * a.2.2) = a.2.2 := by rw [w64_id (by omega) (by omega)]; omega
 have e2 : w64 (a.2.1 + a.2.2) = a.2.1 + a.2.2 := w64_id (by omega) (by omega)
 unfold spec_liGood_k1 impl_isLift_k1 ends
 simp only [z0, hw, idxO_nat, ha, hb, Option.bind_some, spec_raInt, impl_zero, impl_oneRat, spec_liPlus, e1, e2, spec_raCmp_eq a.1 (0, 1) (tame_of hga.1) t0, spec_raCmp_eq b.1 (1, 1) (tame_of hgb.1) t1, cmp_zero, zero_iff hga.1, one_iff hgb.1, pair_beq a.1 (0, 1), pair_beq b.1 (1, 1), pair_beq b.2 (a.2.1 + a.2.2, a.2.2)]
 constructor <;> cases (a.1 == (0, 1)) <;> cases (b.1 == (1, 1)) <;> simp
theorem spec_liGood_eq (xs : List Pt) (hl : xs.length ≤ 4611686018427387904) : spec_liGood xs = some (isLift xs) := by
 unfold spec_liGood isLift
 rw [spec_l1In_eq, Option.bind_some]
 cases h : inB 2 12 xs.length
 ·simp
 ·obtain ⟨h1, h2⟩ := inB_iff.1 h
  obtain ⟨y, h3, h4⟩ := spec_liGood_loop xs hl
  simp only [Bool.not_true, Bool.false_eq_true, if_false, h3, Option.bind_some, Bool.true_and]
  rcases h4 with ⟨rfl, h4⟩ | ⟨rfl, h4⟩
  ·have hd : ∀ {p : Prop} (inst : Decidable p), ¬ p → decide p = false := fun _ h => decide_eq_false h
   rw [hd _ h4]; simp
  ·simp only [Sum.elim_inr, (ends_aux xs (by omega) (by omega) h4.1).1, h4, and_self, decide_true, Bool.true_and]
theorem impl_isLift_eq (xs : List Pt) (hl : xs.length ≤ 4611686018427387904) : impl_isLift xs = some (isLift xs) := by
 unfold impl_isLift isLift
 rw [impl_within_eq, Option.bind_some]
 cases h : inB 2 12 xs.length
 ·simp
 ·obtain ⟨h1, h2⟩ := inB_iff.1 h
  rw [slices_ContainsFunc_Limpl_Point_impl_Point_eq xs (fun x0 => impl_isLift_1 x0) _ impl_isLift_1_eq hl]
  cases hall : xs.all goodPt
  ·have : (xs.any fun p => !goodPt p) = true := by rw [List.any_eq_not_all_not]; simp [hall]
   simp [this]
  ·have hany : (xs.any fun p => !goodPt p) = false := by rw [List.any_eq_not_all_not]; simp [hall]
   obtain ⟨y, h3, h4⟩ := impl_isLift_loop xs hl (by omega) hall
   simp only [Bool.not_true, Bool.false_eq_true, if_false, hany, h3, Option.bind_some, Bool.true_and]
   rcases h4 with ⟨rfl, h4⟩ | ⟨rfl, h4⟩
   ·have hd : ∀ {p : Prop} (inst : Decidable p), ¬ p → decide p = false := fun _ h => decide_eq_false h
    rw [hd _ (fun h => h4 h.2)]; simp
   ·simp only [Sum.elim_inr, (ends_aux xs (by omega) (by omega) hall).2, h4, and_self, decide_true, Bool.true_and]
end Go.PV

/-
 Plain laws: maps of the interval.
 Conditions: none.
-/
set_option linter.all false
namespace Go.PV
section
variable {α β : Type}
end
def isMapT (n : Nat) (p : Nat → Pt) : Prop := (∀ i, i < n → coord (p i).1 = true ∧ coord (p i).2 = true) ∧ (∀ i, 0 < i → i < n → less (p (i - 1)).1 (p i).1 = true) ∧ (p 0).1 = (0, 1) ∧ (p (n - 1)).1 = (1, 1)
theorem w64_pred {i : Nat} (h : 0 < i) (h2 : i < 4611686018427387904) : w64 ((i : Int) - 1) = ((i - 1 : Nat) : Int) := by rw [w64_id (by omega) (by omega)]; omega
theorem coord_tame {r : Rt} (h : coord r = true) : tame r := tame_of (coord_rat h)
theorem idxO_tab0 {α : Type} {n : Nat} {p : Nat → α} (h : 0 < n) : idxO (tab n p) 0 = some (p 0) := idxO_tab (n := n) (f := p) (i := 0) h
end Go.PV

/-
 Plain laws: the variation of a map.
 Conditions: none.
-/
set_option linter.all false
namespace Go.PV
def sumD (r : Nat → Rt) : Nat → Option Rt
 | 0 => some (0, 1)
 | k + 1 => (sumD r k).bind fun s => (distQ (r k) (r (k + 1))).bind fun d => addQ s d
end Go.PV

/-
 Plain laws: slopes and laps of a map.
 Conditions: none.
-/
set_option linter.all false
namespace Go.PV
structure LowOk (n d : Int) (r : Rt) : Prop where
 eq : lowQ n d = some r
 rat : isRat r = true
 num : r.1.natAbs ≤ n.natAbs
 den : 1 ≤ r.2 ∧ r.2 ≤ d
 pos : 0 < n → 0 < r.1
 neg : n < 0 → r.1 < 0
 zer : n = 0 → r.1 = 0
theorem lowQ_some_nonneg {n d : Int} (h1 : 0 ≤ n) (h2 : n ≤ 1000000000) (h3 : 1 ≤ d) (h4 : d ≤ 1000000000) : ∃ r, LowOk n d r := by
 have hg : 0 < Int.gcd n d := Int.gcd_pos_of_ne_zero_right _ (by omega)
 have hdn : ¬ d < 0 := by omega
 have hr := lowest_isRat h1 h2 h3 h4
 have e : lowest n d = if isRat (Int.tdiv n (Int.gcd n d : Int), Int.tdiv d (Int.gcd n d : Int)) = true then ((Int.tdiv n (Int.gcd n d : Int), Int.tdiv d (Int.gcd n d : Int)), true) else ((0, 0), false) := by
  unfold lowest; simp only [if_neg hdn]
 have hrat : isRat (Int.tdiv n (Int.gcd n d : Int), Int.tdiv d (Int.gcd n d : Int)) = true := by
  refine Classical.byContradiction fun hno => ?_
  rw [e, if_neg hno] at hr
  exact absurd hr (by decide)
 rw [if_pos hrat] at e
 have e1 : Int.tdiv n (Int.gcd n d : Int) = n / (Int.gcd n d : Int) := Int.tdiv_eq_ediv_of_nonneg h1
 have e2 : Int.tdiv d (Int.gcd n d : Int) = d / (Int.gcd n d : Int) := Int.tdiv_eq_ediv_of_nonneg (by omega)
 have hgn : 0 < n → (Int.gcd n d : Int) ≤ n := fun h => by
  have := Nat.gcd_le_left d.natAbs (show 0 < n.natAbs by omega)
  have e : Int.gcd n d = Nat.gcd n.natAbs d.natAbs := rfl
  omega
 refine ⟨_, ⟨by unfold lowQ; rw [e]; rfl, hrat, ?_, ⟨(isRat_iff.1 hrat).1, ?_⟩, fun h => ?_, fun h => by omega, fun h => by subst h; simp⟩⟩
 ·exact tdiv_bound _ _
 ·show Int.tdiv d _ ≤ d
  have := tdiv_bound d (Int.gcd n d : Int)
  have h5 := (isRat_iff.1 hrat).1
  simp only at h5
  omega
 ·show 0 < Int.tdiv n _
  rw [e1]
  exact Int.ediv_pos_of_pos_of_dvd h (by omega) (Int.gcd_dvd_left ..)
theorem lowQ_some {n d : Int} (h1 : -1000000000 ≤ n) (h2 : n ≤ 1000000000) (h3 : 1 ≤ d) (h4 : d ≤ 1000000000) : ∃ r, LowOk n d r := by
 by_cases hn : 0 ≤ n
 ·exact lowQ_some_nonneg hn h2 h3 h4
 ·obtain ⟨r, h⟩ := lowQ_some_nonneg (n := -n) (d := d) (by omega) (by omega) h3 h4
  have e := lowQ_neg (n := -n) (d := d) (by omega)
  rw [Int.neg_neg, h.eq] at e
  have hr := isRat_neg h.rat
  have := h.pos (by omega)
  have := h.num
  exact ⟨(-r.1, r.2), ⟨e, by rw [Int.zero_sub] at hr; exact hr, by show (-r.1).natAbs ≤ _; omega, h.den, fun h => by omega, fun h => by show -r.1 < 0; omega, fun h => by omega⟩⟩
theorem coord_bd {r : Rt} (h : coord r = true) : 0 ≤ r.1 ∧ r.1 ≤ r.2 ∧ 1 ≤ r.2 ∧ r.2 ≤ 100 := by
 simp only [coord, isUnit, Bool.and_eq_true, inB_iff, decide_eq_true_eq] at h
 have := isRat_iff.1 h.1.1
 omega
theorem mul_bd {a b A B : Int} (h1 : -A ≤ a) (h2 : a ≤ A) (h3 : -B ≤ b) (h4 : b ≤ B) (hA : 0 ≤ A) (hB : 0 ≤ B) : -(A * B) ≤ a * b ∧ a * b ≤ A * B := by
 have h5 : (a * b).natAbs ≤ A.natAbs * B.natAbs := by rw [Int.natAbs_mul]; exact Nat.mul_le_mul (by omega) (by omega)
 have h6 : ((A.natAbs * B.natAbs : Nat) : Int) = A * B := by rw [Int.natCast_mul]; rw [Int.natAbs_of_nonneg hA, Int.natAbs_of_nonneg hB]
 omega
def small (r : Rt) : Prop := isRat r = true ∧ -500 ≤ r.1 ∧ r.1 ≤ 500 ∧ 1 ≤ r.2 ∧ r.2 ≤ 100
theorem small_coord {r : Rt} (h : coord r = true) : small r := by
 have := coord_bd h
 exact ⟨coord_rat h, by omega, by omega, by omega, by omega⟩
theorem sub_small {a b : Rt} (ha : small a) (hb : small b) : ∃ r, LowOk (a.1 * b.2 - b.1 * a.2) (a.2 * b.2) r ∧ subQ a b = some r ∧ r.1.natAbs ≤ 100000 ∧ r.2 ≤ 10000 := by
 obtain ⟨_, a1, a2, a3, a4⟩ := ha
 obtain ⟨_, b1, b2, b3, b4⟩ := hb
 have m1 := mul_bd (a := a.1) (b := b.2) (A := 500) (B := 100) (by omega) (by omega) (by omega) (by omega) (by omega) (by omega)
 have m2 := mul_bd (a := b.1) (b := a.2) (A := 500) (B := 100) (by omega) (by omega) (by omega) (by omega) (by omega) (by omega)
 have m3 := mul_bd (a := a.2) (b := b.2) (A := 100) (B := 100) (by omega) (by omega) (by omega) (by omega) (by omega) (by omega)
 have p3 : 0 < a.2 * b.2 := Int.mul_pos (by omega) (by omega)
 obtain ⟨r, hr⟩ := lowQ_some (n := a.1 * b.2 - b.1 * a.2) (d := a.2 * b.2) (by omega) (by omega) (by omega) (by omega)
 have h5 := hr.num
 have h6 := hr.den
 exact ⟨r, hr, hr.eq, by omega, by omega⟩
def slopeQ (p q : Pt) : Rt := (((subQ q.2 p.2).bind fun u => (subQ q.1 p.1).bind fun v => divQ u v)).getD (0, 0)
structure SlopeOk (p q : Pt) (u v : Rt) : Prop where
 up : subQ q.2 p.2 = some u
 far : subQ q.1 p.1 = some v
 ru : isRat u = true
 rv : isRat v = true
 div : divQ u v = some (slopeQ p q)
 rs : isRat (slopeQ p q) = true
 ub : u.1.natAbs ≤ 100000 ∧ u.2 ≤ 10000
 vb : v.1.natAbs ≤ 10000 ∧ v.2 ≤ 10000
 vp : 0 < v.1
 sg : (0 < (slopeQ p q).1 ↔ 0 < u.1) ∧ ((slopeQ p q).1 < 0 ↔ u.1 < 0)
theorem slope_ok {p q : Pt} (hp1 : coord p.1 = true) (hp2 : small p.2) (hq1 : coord q.1 = true) (hq2 : small q.2) (hl : less p.1 q.1 = true) : ∃ u v, SlopeOk p q u v := by
 obtain ⟨u, hu, e1, u1, u2⟩ := sub_small hq2 hp2
 obtain ⟨v, hv, e2, v1', v2⟩ := sub_small (small_coord hq1) (small_coord hp1)
 have v1 : v.1.natAbs ≤ 10000 := by
  have h1 := hv.num
  obtain ⟨a1, a2, a3, a4⟩ := coord_bd hq1
  obtain ⟨b1, b2, b3, b4⟩ := coord_bd hp1
  have m1 := mul_bd (a := q.1.1) (b := p.1.2) (A := 100) (B := 100) (by omega) (by omega) (by omega) (by omega) (by omega) (by omega)
  have m2 := mul_bd (a := p.1.1) (b := q.1.2) (A := 100) (B := 100) (by omega) (by omega) (by omega) (by omega) (by omega) (by omega)
  have p1 : 0 ≤ q.1.1 * p.1.2 := Int.mul_nonneg a1 (by omega)
  have p2 : 0 ≤ p.1.1 * q.1.2 := Int.mul_nonneg b1 (by omega)
  omega
 have hlt : p.1.1 * q.1.2 < q.1.1 * p.1.2 := by simpa [less] using hl
 have hvp := hv.pos (by omega)
 have hud := hu.den
 have hvd := hv.den
 have m1 := mul_bd (a := u.1) (b := v.2) (A := 100000) (B := 10000) (by omega) (by omega) (by omega) (by omega) (by omega) (by omega)
 have m2 := mul_bd (a := u.2) (b := v.1) (A := 10000) (B := 10000) (by omega) (by omega) (by omega) (by omega) (by omega) (by omega)
 have m3 : 0 < u.2 * v.1 := Int.mul_pos (by omega) hvp
 obtain ⟨s, hs⟩ := lowQ_some (n := u.1 * v.2) (d := u.2 * v.1) (by omega) (by omega) (by omega) (by omega)
 have e3 : divQ u v = some s := by unfold divQ; rw [if_neg (by omega)]; exact hs.eq
 have e4 : slopeQ p q = s := by unfold slopeQ; rw [e1, e2]; simp [e3]
 refine ⟨u, v, ⟨e1, e2, hu.rat, hv.rat, by rw [e4]; exact e3, by rw [e4]; exact hs.rat, ⟨u1, u2⟩, ⟨v1, v2⟩, hvp, ?_⟩⟩
 rw [e4]
 have hv2 : 0 < v.2 := by omega
 rcases Int.lt_trichotomy u.1 0 with h | h | h
 ·have h1 : u.1 * v.2 < 0 := Int.mul_neg_of_neg_of_pos h hv2
  have := hs.neg h1
  constructor <;> constructor <;> omega
 ·have h1 : u.1 * v.2 = 0 := by rw [h, Int.zero_mul]
  have := hs.zer h1
  constructor <;> constructor <;> omega
 ·have h1 : 0 < u.1 * v.2 := Int.mul_pos h hv2
  have := hs.pos h1
  constructor <;> constructor <;> omega
theorem impl_slope_eq {p q : Pt} {u v : Rt} (hp1 : coord p.1 = true) (hp2 : small p.2) (hq1 : coord q.1 = true) (hq2 : small q.2) (h : SlopeOk p q u v) (bad : Bool) : impl_calc_slope bad p q = some (slopeQ p q, bad) := by
 unfold impl_calc_slope
 rw [impl_sub_eq bad hq2.1 hp2.1, Option.bind_some, h.up]
 simp only [cK]
 rw [impl_sub_eq bad (coord_rat hq1) (coord_rat hp1), Option.bind_some, h.far]
 simp only [cK]
 rw [impl_div_eq bad h.ru h.rv, Option.bind_some, h.div]
 rfl
theorem spec_imSlope_eq {p q : Pt} {u v : Rt} (hp1 : coord p.1 = true) (hp2 : small p.2) (hq1 : coord q.1 = true) (hq2 : small q.2) (h : SlopeOk p q u v) : spec_imSlope p q = some (slopeQ p q) := by
 unfold spec_imSlope
 rw [spec_raSub_eq hq2.1 hp2.1, Option.bind_some, h.up]
 simp only [unO]
 rw [spec_raSub_eq (coord_rat hq1) (coord_rat hp1), Option.bind_some, h.far]
 simp only [unO]
 rw [spec_raDiv_eq h.ru h.rv, Option.bind_some, h.div]
 rfl
section
variable {n : Nat} {p : Nat → Pt}
def slopesT (n : Nat) (p : Nat → Pt) : List Rt := tab (n - 1) fun i => slopeQ (p i) (p (i + 1))
def strictB (n : Nat) (p : Nat → Pt) : Bool := (slopesT n p).all fun s => !(s.1 == 0)
end
end Go.PV

/-
 Plain laws: values of maps and lifts.
 Conditions: none.
-/
set_option linter.all false
namespace Go.PV
structure Curve (n : Nat) (p : Nat → Pt) : Prop where
 lo : 2 ≤ n
 hi : n ≤ 12
 x : ∀ i, i < n → coord (p i).1 = true
 y : ∀ i, i < n → small (p i).2
 up : ∀ i, 0 < i → i < n → less (p (i - 1)).1 (p i).1 = true
 fst : (p 0).1 = (0, 1)
 lst : (p (n - 1)).1 = (1, 1)
def CR (bad : Bool) (o : Option Rt) (v : Rt × Bool) : Prop := isRat v.1 = true ∧ match o with
 | some r => v = (r, bad)
 | none => v.2 = true
theorem CR_cK {bad : Bool} {o : Option Rt} (h : ∀ r, o = some r → isRat r = true) : CR bad o (cK bad o) := by
 refine ⟨cK_rat h, ?_⟩
 cases o <;> rfl
theorem CR_bad {o : Option Rt} {v : Rt × Bool} (h : CR true o v) : v.2 = true := by
 obtain ⟨_, h⟩ := h
 cases o with
 | some r => rw [h]
 | none => exact h
theorem CR_bind {bad : Bool} {o : Option Rt} {v v' : Rt × Bool} {g : Rt → Option Rt} (h : CR bad o v) (h' : CR v.2 (g v.1) v') : CR bad (o.bind g) v' := by
 obtain ⟨h1, h2⟩ := h
 refine ⟨h'.1, ?_⟩
 cases o with
 | some r =>
  simp only at h2
  subst h2
  exact h'.2
 | none =>
  simp only at h2
  simp only [Option.bind_none]
  have := h'
  rw [h2] at this
  exact CR_bad this
section
variable {n : Nat} {p : Nat → Pt}
theorem Curve.piece (h : Curve n p) {i : Nat} (hi : i + 1 < n) : ∃ u v, SlopeOk (p i) (p (i + 1)) u v :=
 slope_ok (h.x i (by omega)) (h.y i (by omega)) (h.x (i + 1) hi) (h.y (i + 1) hi) (h.up (i + 1) (by omega) hi)
structure AtJ (n : Nat) (p : Nat → Pt) (x : Rt) (j : Nat) : Prop where
 lt : j < n
 bef : ∀ k, k < j → less (p k).1 x = true
 at' : less (p j).1 x = false
theorem findJ (h : Curve n p) {x : Rt} (hx : isUnit x = true) : ∃ j, AtJ n p x j := by
  have hr : isRat x = true := by simp only [isUnit, Bool.and_eq_true] at hx; exact hx.1
  have hle : less (p (n - 1)).1 x = false := by
    rw [h.lst]
    simp only [isUnit, Bool.and_eq_true, inB_iff] at hx
    have := isRat_iff.1 hr
    simp only [less, decide_eq_false_iff_not]
    omega
  have : ∀ k, k < n → (∃ j, AtJ n p x j) ∨ ∀ i, i ≤ k → less (p i).1 x = true := by
    intro k
    induction k with
    | zero =>
      intro hk
      cases h0 : less (p 0).1 x
      · exact .inl ⟨0, hk, fun k hk => by omega, h0⟩
      · exact .inr fun i hi => by have : i = 0 := by omega
                                  subst this; exact h0
    | succ k ih =>
      intro hk
      rcases ih (by omega) with h1 | h1
      · exact .inl h1
      · cases h0 : less (p (k + 1)).1 x
        · exact .inl ⟨k + 1, hk, fun i hi => h1 i (by omega), h0⟩
        · refine .inr fun i hi => ?_
          by_cases hik : i ≤ k
          · exact h1 i hik
          · have : i = k + 1 := by omega
            subst this; exact h0
  have h2 := h.lo
  rcases this (n - 1) (by omega) with h1 | h1
  · exact h1
  · have := h1 (n - 1) (Nat.le_refl _)
    rw [hle] at this; cases this
theorem AtJ.uniq {x : Rt} {j k : Nat} (h : AtJ n p x j) (h' : AtJ n p x k) : j = k := by
 rcases Nat.lt_trichotomy j k with h1 | h1 | h1
 ·have := h'.bef j h1; rw [h.at'] at this; cases this
 ·exact h1
 ·have := h.bef k h1; rw [h'.at'] at this; cases this
theorem index_Pt (f : Pt → Option Bool) (q : Nat → Bool) (hf : ∀ i, i < n → f (p i) = some (q i)) (j : Nat) (hj : j < n) (hn : n ≤ 1048576) (h1 : ∀ k, k < j → q k = false) (h2 : q j = true) : slices_IndexFunc_Limpl_Point_impl_Point (tab n p) f = some (j : Int) := by
 have hx := loop_idx (body := slices_IndexFunc_Limpl_Point_impl_Point_b1 (tab n p) f) j (fun i => (i : Int)) (.inl (j : Int)) (fun i hi => by
  simp only [slices_IndexFunc_Limpl_Point_impl_Point_b1, tab_len, idxO_tab (show i < n by omega), hf i (by omega), h1 i hi, Option.bind_some, show ((i : Int) < (n : Int)) from by omega, decide_true, if_true, w64_nat (show i < 9223372036854775807 by omega)]
  simp) (by
  simp only [slices_IndexFunc_Limpl_Point_impl_Point_b1, tab_len, idxO_tab hj, hf j hj, h2, Option.bind_some, show ((j : Int) < (n : Int)) from by omega, decide_true, if_true])
 unfold slices_IndexFunc_Limpl_Point_impl_Point
 rw [show (0 : Int) = ((0 : Nat) : Int) from rfl, hx]
 rfl
theorem impl_pieceAt_eq (h : Curve n p) {x : Rt} (hx : isRat x = true) {j : Nat} (hj : AtJ n p x j) : impl_pieceAt (tab n p) x = some ((j - 1 : Nat) : Int) := by
 have h1 := h.hi
 have hlt := hj.lt
 unfold impl_pieceAt
 rw [index_Pt (fun x0 => impl_pieceAt_1 x0 x) (fun i => !less (p i).1 x) (fun i hi => by simp [impl_pieceAt_1, impl_less_eq _ _ (coord_tame (h.x i hi)) (tame_of hx)]) j hlt (by omega) (fun k hk => by simp [hj.bef k hk]) (by simp [hj.at'])]
 rw [Option.bind_some, w64_id (by omega) (by omega)]
 congr 1
 split <;> omega
theorem spec_imPiece_eq (h : Curve n p) {x : Rt} (hx : isRat x = true) {j : Nat} (hj : AtJ n p x j) : spec_imPiece (tab n p) x = some ((j - 1 : Nat) : Int) := by
 have h1 := h.hi
 have h2 := h.lo
 have hlt := hj.lt
 have hx := loop_idx (body := spec_imPiece_b1 (tab n p) x) (j - 1) (fun i => (i : Int)) ((j - 1 : Nat) : Int) (fun i hi => by
  have e2 : w64 ((i : Int) + 2) = ((i + 2 : Nat) : Int) := by rw [w64_id (by omega) (by omega)]; omega
  simp only [spec_imPiece_b1, tab_len, e2, w64_nat (show i < 9223372036854775807 by omega), idxO_tab (show i + 1 < n by omega), Option.bind_some, spec_raCmp_eq _ _ (coord_tame (h.x (i + 1) (by omega))) (tame_of hx), show (((i + 2 : Nat) : Int) < (n : Int)) from by omega, decide_true, if_true]
  have : decide (cmp (p (i + 1)).1 x < 0) = true := by
   have := hj.bef (i + 1) (by omega)
   simp only [less, decide_eq_true_eq] at this
   simp [cmp, this]
  rw [this]; rfl) (by
  have e2 : w64 (((j - 1 : Nat) : Int) + 2) = ((j - 1 + 2 : Nat) : Int) := by rw [w64_id (by omega) (by omega)]; omega
  simp only [spec_imPiece_b1, tab_len, e2]
  by_cases hc : j - 1 + 2 < n
  ·simp only [show (((j - 1 + 2 : Nat) : Int) < (n : Int)) from by omega, decide_true, if_true, w64_nat (show j - 1 < 9223372036854775807 by omega), idxO_tab (show j - 1 + 1 < n by omega), Option.bind_some, spec_raCmp_eq _ _ (coord_tame (h.x (j - 1 + 1) (by omega))) (tame_of hx)]
   have hno : less (p (j - 1 + 1)).1 x = false := by
    by_cases hj0 : j = 0
    ·subst hj0
     -- x is not behind the first point, so not behind the second
     have h3 := hj.at'
     have h4 := h.up 1 (by omega) (by omega)
     rw [h.fst] at h3 h4
     obtain ⟨x1, x2, x3, x4, _⟩ := isRat_iff.1 hx
     have c := coord_bd (h.x 1 (by omega))
     simp only [less, decide_eq_false_iff_not, decide_eq_true_eq] at h3 h4 ⊢
     simp only [Nat.zero_sub, Nat.zero_add, Nat.sub_self] at h4 ⊢
     have p1 : 0 ≤ (p 1).1.1 * x.2 := Int.mul_nonneg c.1 (by omega)
     have p2 : x.1 * (p 1).1.2 ≤ 0 := Int.mul_nonpos_of_nonpos_of_nonneg (by omega) (by omega)
     omega
    ·rw [show j - 1 + 1 = j by omega]; exact hj.at'
   have : decide (cmp (p (j - 1 + 1)).1 x < 0) = false := by
    simp only [less, decide_eq_false_iff_not] at hno
    simp only [cmp, hno, if_false]
    split <;> rfl
   rw [this]; rfl
  ·simp only [show ¬ (((j - 1 + 2 : Nat) : Int) < (n : Int)) from by omega, decide_false, Bool.false_eq_true, if_false, Option.bind_some])
 unfold spec_imPiece
 rw [show (0 : Int) = ((0 : Nat) : Int) from rfl, hx]
 rfl
def onQ (p q : Pt) (x : Rt) : Option Rt := (subQ x p.1).bind fun far => (mulQ (slopeQ p q) far).bind fun up => addQ p.2 up
theorem mulQ_comm (a b : Rt) : mulQ a b = mulQ b a := by unfold mulQ; rw [Int.mul_comm, Int.mul_comm a.2]
theorem impl_line_eq {q : Pt} {s x : Rt} (hq1 : isRat q.1 = true) (hq2 : isRat q.2 = true) (hs : isRat s = true) (hx : isRat x = true) (bad : Bool) : ∃ v, impl_calc_line bad q s x = some v ∧ CR bad ((subQ x q.1).bind fun far => (mulQ s far).bind fun up => addQ q.2 up) v := by
 have c1 : CR bad (subQ x q.1) (cK bad (subQ x q.1)) := CR_cK fun _ => subQ_rat
 have c2 := CR_cK (bad := (cK bad (subQ x q.1)).2) (o := mulQ s (cK bad (subQ x q.1)).1) fun _ => mulQ_rat
 have c3 := CR_cK (bad := (cK (cK bad (subQ x q.1)).2 (mulQ s (cK bad (subQ x q.1)).1)).2) (o := addQ q.2 (cK (cK bad (subQ x q.1)).2 (mulQ s (cK bad (subQ x q.1)).1)).1) fun _ => addQ_rat
 refine ⟨_, ?_, CR_bind c1 (CR_bind (g := fun up => addQ q.2 up) c2 c3)⟩
 unfold impl_calc_line
 rw [impl_sub_eq bad hx hq1, Option.bind_some, impl_mul_eq _ hs c1.1, Option.bind_some, impl_add_eq _ hq2 c2.1]
 rfl
theorem impl_value_eq (h : Curve n p) {x : Rt} (hx : isRat x = true) {j : Nat} (hj : AtJ n p x j) (bad : Bool) : ∃ v, impl_calc_value bad (tab n p) x = some v ∧ CR bad (onQ (p (j - 1)) (p (j - 1 + 1)) x) v := by
 have h1 := h.hi
 have h2 := h.lo
 have hlt := hj.lt
 have hj1 : j - 1 + 1 < n := by omega
 obtain ⟨u, v, hs⟩ := h.piece hj1
 obtain ⟨w, e1, e2⟩ := impl_line_eq (q := p (j - 1)) (s := slopeQ (p (j - 1)) (p (j - 1 + 1))) (x := x) (coord_rat (h.x (j - 1) (by omega))) (h.y (j - 1) (by omega)).1 hs.rs hx bad
 refine ⟨w, ?_, e2⟩
 unfold impl_calc_value
 rw [impl_pieceAt_eq h hx hj]
 simp only [Option.bind_some, w64_nat (show j - 1 < 9223372036854775807 by omega), idxO_tab (show j - 1 < n by omega), idxO_tab hj1, impl_slope_eq (h.x (j - 1) (by omega)) (h.y (j - 1) (by omega)) (h.x (j - 1 + 1) hj1) (h.y (j - 1 + 1) hj1) hs bad, e1]
theorem spec_raMul_zero (s : Rt) : spec_raMul (0, 0) s = some ((0, 0), false) := by
 unfold spec_raMul spec_raMake
 have : w64 (0 * s.2) = 0 := by rw [Int.zero_mul]; rfl
 simp only [this]
 rfl
theorem spec_imAt_eq (h : Curve n p) {x : Rt} (hx : isRat x = true) {j : Nat} (hj : AtJ n p x j) : spec_imAt (tab n p) x = some (unO (onQ (p (j - 1)) (p (j - 1 + 1)) x)) := by
 have h1 := h.hi
 have h2 := h.lo
 have hlt := hj.lt
 have hj1 : j - 1 + 1 < n := by omega
 obtain ⟨u, v, hs⟩ := h.piece hj1
 have rx := coord_rat (h.x (j - 1) (by omega))
 unfold spec_imAt
 rw [spec_imPiece_eq h hx hj]
 simp only [Option.bind_some, w64_nat (show j - 1 < 9223372036854775807 by omega), idxO_tab (show j - 1 < n by omega), idxO_tab hj1, spec_imOn, spec_raSub_eq hx rx, spec_imSlope_eq (h.x (j - 1) (by omega)) (h.y (j - 1) (by omega)) (h.x (j - 1 + 1) hj1) (h.y (j - 1 + 1) hj1) hs, onQ]
 cases hsq : subQ x (p (j - 1)).1 with
 | none =>
  simp only [unO, spec_raMul_zero, Option.bind_some, Option.bind_none]
  rfl
 | some far =>
  have hf := subQ_rat hsq
  simp only [unO, spec_raMul_eq hf hs.rs, Option.bind_some, mulQ_comm far]
  cases hmq : mulQ (slopeQ (p (j - 1)) (p (j - 1 + 1))) far with
  | none => rfl
  | some up =>
   simp only [unO, Option.bind_some, spec_raAdd_eq (h.y (j - 1) (by omega)).1 (mulQ_rat hmq)]
   rfl
end
end Go.PV

/-
 Plain laws: values of lifts.
 Conditions: none.
-/
set_option linter.all false
namespace Go.PV
structure LiftT (n : Nat) (p : Nat → Pt) : Prop where
 cur : Curve n p
 mono : ∀ i, 0 < i → i < n → less (p i).2 (p (i - 1)).2 = false
 lstY : (p (n - 1)).2 = ((p 0).2.1 + (p 0).2.2, (p 0).2.2)
 by5 : ∀ i, i < n → -5 * (p i).2.2 ≤ (p i).2.1 ∧ (p i).2.1 ≤ 5 * (p i).2.2
theorem isLift_tab {f : List Pt} (h : isLift f = true) : ∃ n p, f = tab n p ∧ LiftT n p := by
 unfold isLift at h
 simp only [Bool.and_eq_true, decide_eq_true_eq] at h
 obtain ⟨hin, ⟨hall, hst⟩, he⟩ := h
 have hb := inB_iff.1 hin
 have e : f = tab f.length (fun i => f.getD i ((0, 0), (0, 0))) := tab_eta f
 have hg : ∀ i, i < f.length → goodPt (f.getD i ((0, 0), (0, 0))) = true := fun i hi => by
  have : f.getD i ((0, 0), (0, 0)) = f[i] := by simp [hi]
  rw [this]; exact List.all_eq_true.1 hall _ (List.getElem_mem hi)
 have hget : ∀ i, i < f.length → f[i]? = some (f.getD i ((0, 0), (0, 0))) := fun i hi => by simp [hi]
 have hs : ∀ i, 0 < i → i < f.length → stepPt (f.getD (i - 1) ((0, 0), (0, 0))) (f.getD i ((0, 0), (0, 0))) = true := fun i h0 hi => hst i _ _ h0 hi (hget (i - 1) (by omega)) (hget i hi)
 unfold ends at he
 rw [hget 0 (by omega), hget (f.length - 1) (by omega)] at he
 simp only [Bool.and_eq_true, beq_iff_eq] at he
 have hgp : ∀ i, i < f.length → coord (f.getD i ((0, 0), (0, 0))).1 = true ∧ isRat (f.getD i ((0, 0), (0, 0))).2 = true ∧ (f.getD i ((0, 0), (0, 0))).2.2 ≤ 100 ∧ -5 * (f.getD i ((0, 0), (0, 0))).2.2 ≤ (f.getD i ((0, 0), (0, 0))).2.1 ∧ (f.getD i ((0, 0), (0, 0))).2.1 ≤ 5 * (f.getD i ((0, 0), (0, 0))).2.2 := fun i hi => by
  have := hg i hi
  simp only [goodPt, Bool.and_eq_true, decide_eq_true_eq, inB_iff] at this
  exact ⟨this.1, this.2.1, this.2.2.1, this.2.2.2.1, this.2.2.2.2⟩
 refine ⟨f.length, fun i => f.getD i ((0, 0), (0, 0)), e, ⟨⟨by omega, by omega, fun i hi => (hgp i hi).1, fun i hi => ?_, fun i h0 hi => ?_, he.1, he.2.1⟩, fun i h0 hi => ?_, he.2.2, fun i hi => (hgp i hi).2.2.2⟩⟩
 ·obtain ⟨_, h1, h2, h3, h4⟩ := hgp i hi
  have := isRat_iff.1 h1
  exact ⟨h1, by omega, by omega, by omega, h2⟩
 ·have := hs i h0 hi
  simp only [stepPt, Bool.and_eq_true] at this
  exact this.1
 ·have := hs i h0 hi
  simp only [stepPt, Bool.and_eq_true, Bool.not_eq_true'] at this
  exact this.2
theorem both_isLift (f : List Pt) (hl : f.length ≤ 4611686018427387904) : spec_liGood f = some (isLift f) ∧ impl_isLift f = some (isLift f) := ⟨spec_liGood_eq f hl, impl_isLift_eq f hl⟩
theorem lowQ_self {r : Rt} (h : isRat r = true) : lowQ r.1 r.2 = some r := by unfold lowQ; rw [lowest_of_isRat h]; rfl
def flr (x : Rt) : Int := floorDiv x.1 x.2
def part (x : Rt) : Rt := (x.1 - flr x * x.2, x.2)
theorem isRat_whole {k : Int} (h1 : -1000000000 ≤ k) (h2 : k ≤ 1000000000) : isRat (k, 1) = true := isRat_iff.2 ⟨by show (1 : Int) ≤ 1; omega, by show (1 : Int) ≤ _; omega, h1, h2, by show Int.gcd k 1 = 1; simp⟩
theorem near_rat {x : Rt} (h : near x = true) : isRat x = true ∧ -1000 * x.2 ≤ x.1 ∧ x.1 ≤ 1000 * x.2 := by
 simp only [near, Bool.and_eq_true, inB_iff] at h
 exact ⟨h.1, h.2⟩
structure PartOk (x : Rt) : Prop where
 rat : isRat (part x) = true
 lo : 0 ≤ (part x).1
 hi : (part x).1 < (part x).2
 spec : spec_raFloor x = some (flr x)
 impl : impl_floor x = some (flr x)
 bd : flr x * x.2 ≤ x.1 ∧ x.1 < flr x * x.2 + x.2
theorem part_ok {x : Rt} (h : isRat x = true) : PartOk x := by
 obtain ⟨h1, h2, h3, h4, h5⟩ := isRat_iff.1 h
 have hf := floorDiv_spec x.1 x.2 (by omega)
 refine ⟨?_, by show 0 ≤ x.1 - flr x * x.2; unfold flr; omega, by show x.1 - flr x * x.2 < x.2; unfold flr; omega, ?_, ?_, hf⟩
 ·refine isRat_iff.2 ⟨h1, h2, by show -1000000000 ≤ x.1 - flr x * x.2; unfold flr; omega, by show x.1 - flr x * x.2 ≤ _; unfold flr; omega, ?_⟩
  show Int.gcd (x.1 - flr x * x.2) x.2 = 1
  rw [show x.1 - flr x * x.2 = x.1 + (-(flr x)) * x.2 by rw [Int.neg_mul]; omega, Int.gcd_add_mul_right_left]
  exact h5
 ·unfold spec_raFloor; rw [spec_raDown_eq _ _ (by omega) (by omega) (by omega)]; rfl
 ·unfold impl_floor; rw [impl_floorDivide_eq _ _ (by omega) (by omega) (by omega)]; rfl
theorem part_unit {x : Rt} (h : PartOk x) : isUnit (part x) = true := by
 have := h.lo
 have := h.hi
 simp only [isUnit, Bool.and_eq_true, inB_iff]
 exact ⟨h.rat, h.lo, by omega⟩
theorem flr_bd {x : Rt} (h : near x = true) : -1000 ≤ flr x ∧ flr x ≤ 1000 := by
 obtain ⟨hr, h6, h7⟩ := near_rat h
 obtain ⟨h1, h2, h3, h4, h5⟩ := isRat_iff.1 hr
 have hf := floorDiv_spec x.1 x.2 (by omega)
 unfold flr
 constructor
 ·by_cases h : floorDiv x.1 x.2 < -1000
  ·have : (floorDiv x.1 x.2 + 1) * x.2 ≤ -1000 * x.2 := Int.mul_le_mul_of_nonneg_right (by omega) (by omega)
   rw [Int.add_mul] at this; omega
  ·omega
 ·by_cases h : 1000 < floorDiv x.1 x.2
  ·have : 1001 * x.2 ≤ floorDiv x.1 x.2 * x.2 := Int.mul_le_mul_of_nonneg_right (by omega) (by omega)
   omega
  ·omega
theorem sub_whole {x : Rt} (h : PartOk x) : subQ x (flr x, 1) = some (part x) := by
 have := lowQ_self h.rat
 unfold subQ
 simp only [Int.mul_one]
 exact this
theorem spec_liPlus_part {x : Rt} (hx : isRat x = true) (h : near x = true) : spec_liPlus x (w64 (0 - flr x)) = some (part x) := by
 obtain ⟨h1, h2, h3, h4, h5⟩ := isRat_iff.1 hx
 have hb := flr_bd h
 have hp := part_ok hx
 have h6 := hp.bd
 unfold spec_liPlus part
 rw [w64_id (n := 0 - flr x) (by omega) (by omega)]
 have e : (0 - flr x) * x.2 = -(flr x * x.2) := by rw [Int.sub_mul]; omega
 rw [e, w64_id (n := -(flr x * x.2)) (by omega) (by omega), w64_id (by omega) (by omega)]
 congr 3
section
variable {n : Nat} {p : Nat → Pt}
open Classical in
noncomputable def atQ (n : Nat) (p : Nat → Pt) (x : Rt) : Option Rt := if h : ∃ j, AtJ n p x j then onQ (p (Classical.choose h - 1)) (p (Classical.choose h - 1 + 1)) x else none
theorem atQ_eq {x : Rt} {j : Nat} (h : AtJ n p x j) : atQ n p x = onQ (p (j - 1)) (p (j - 1 + 1)) x := by
 have hx : ∃ j, AtJ n p x j := ⟨j, h⟩
 unfold atQ
 rw [dif_pos hx, AtJ.uniq (Classical.choose_spec hx) h]
theorem onQ_rat {q r : Pt} {x y : Rt} (h : onQ q r x = some y) : isRat y = true := by
 unfold onQ at h
 obtain ⟨a, _, h⟩ := Option.bind_eq_some_iff.1 h
 obtain ⟨b, _, h⟩ := Option.bind_eq_some_iff.1 h
 exact addQ_rat h
theorem atQ_rat {x y : Rt} (h : atQ n p x = some y) : isRat y = true := by
 unfold atQ at h
 split at h
 ·exact onQ_rat h
 ·cases h
theorem spec_at (h : Curve n p) {x : Rt} (hx : isUnit x = true) : spec_imAt (tab n p) x = some (unO (atQ n p x)) := by
 have hr : isRat x = true := by simp only [isUnit, Bool.and_eq_true] at hx; exact hx.1
 obtain ⟨j, hj⟩ := findJ h hx
 rw [spec_imAt_eq h hr hj, atQ_eq hj]
theorem impl_at (h : Curve n p) {x : Rt} (hx : isUnit x = true) (bad : Bool) : ∃ v, impl_calc_value bad (tab n p) x = some v ∧ CR bad (atQ n p x) v := by
 have hr : isRat x = true := by simp only [isUnit, Bool.and_eq_true] at hx; exact hx.1
 obtain ⟨j, hj⟩ := findJ h hx
 rw [atQ_eq hj]
 exact impl_value_eq h hr hj bad
noncomputable def liftQ (n : Nat) (p : Nat → Pt) (x : Rt) : Option Rt := (atQ n p (part x)).bind fun y => addQ y (flr x, 1)
theorem liftQ_rat {x y : Rt} (h : liftQ n p x = some y) : isRat y = true := by
 obtain ⟨a, _, h⟩ := Option.bind_eq_some_iff.1 h
 exact addQ_rat h
theorem spec_liAt_eq (h : Curve n p) {x : Rt} (hx : near x = true) : spec_liAt (tab n p) x = some (unO (liftQ n p x)) := by
 have hr := (near_rat hx).1
 have hp := part_ok hr
 have hk := flr_bd hx
 unfold spec_liAt liftQ
 rw [hp.spec]
 simp only [Option.bind_some, spec_liPlus_part hr hx, spec_at h (part_unit hp), spec_raInt]
 cases ha : atQ n p (part x) with
 | none => rfl
 | some y =>
  simp only [unO, Bool.not_true, Bool.false_eq_true, if_false, Option.bind_some, spec_raAdd_eq (atQ_rat ha) (isRat_whole (k := flr x) (by omega) (by omega))]
theorem impl_lift_eq (h : Curve n p) {x : Rt} (hx : near x = true) (bad : Bool) : ∃ v, impl_calc_lift bad (tab n p) x = some v ∧ CR bad (liftQ n p x) v := by
 have hr := (near_rat hx).1
 have hp := part_ok hr
 have hk := flr_bd hx
 have hw := isRat_whole (k := flr x) (by omega) (by omega)
 obtain ⟨v, e1, e2⟩ := impl_at h (part_unit hp) bad
 have c3 := CR_cK (bad := v.2) (o := addQ v.1 (flr x, 1)) fun _ => addQ_rat
 refine ⟨cK v.2 (addQ v.1 (flr x, 1)), ?_, CR_bind (g := fun y => addQ y (flr x, 1)) e2 c3⟩
 unfold impl_calc_lift impl_whole
 rw [hp.impl]
 simp only [Option.bind_some]
 rw [impl_sub_eq bad hr hw, sub_whole hp]
 simp only [Option.bind_some, cK]
 rw [e1, Option.bind_some, impl_add_eq _ e2.1 hw]
 rfl
end
end Go.PV

set_option linter.all false
namespace Go.PV
theorem less_not {a b : Int × Int} (hl : less a b = true) : less b a = false := by
 simp only [less, decide_eq_true_eq, decide_eq_false_iff_not] at hl ⊢
 omega
def minStep (a b : Int × Int) : Int × Int := if less b a = true then b else a
def maxStep (a b : Int × Int) : Int × Int := if less a b = true then b else a
def mnN (r : Nat → Int × Int) (i : Nat) : Int × Int := foldN i (fun s j => minStep s (r j)) (r 0)
def mxN (r : Nat → Int × Int) (i : Nat) : Int × Int := foldN i (fun s j => maxStep s (r j)) (r 0)
theorem mnN_succ (r : Nat → Int × Int) (i : Nat) : mnN r (i + 1) = minStep (mnN r i) (r i) := by simp [mnN, foldN_succ]
theorem mxN_succ (r : Nat → Int × Int) (i : Nat) : mxN r (i + 1) = maxStep (mxN r i) (r i) := by simp [mxN, foldN_succ]
theorem less_self (a : Int × Int) : less a a = false := by simp [less]
theorem mnN_one (r : Nat → Int × Int) : mnN r 1 = r 0 := by simp [mnN, foldN, minStep, less_self]
theorem mxN_one (r : Nat → Int × Int) : mxN r 1 = r 0 := by simp [mxN, foldN, maxStep, less_self]
theorem mn_rat {r : Nat → Int × Int} {n : Nat} (h0 : isRat (r 0) = true) (h : ∀ i, i < n → isRat (r i) = true) : ∀ i, i ≤ n → isRat (mnN r i) = true ∧ isRat (mxN r i) = true
 | 0, _ => by simpa [mnN, mxN, foldN_zero] using h0
 | i + 1, hi => by
  have ih := mn_rat h0 h i (by omega)
  rw [mnN_succ, mxN_succ]
  unfold minStep maxStep
  refine ⟨?_, ?_⟩
  ·split
   ·exact h i (by omega)
   ·exact ih.1
  ·split
   ·exact h i (by omega)
   ·exact ih.2
theorem cmp_lt (a b : Int × Int) : decide (cmp a b < 0) = less a b := by
 unfold cmp less
 by_cases h1 : a.1 * b.2 < b.1 * a.2
 ·simp [h1]
 ·by_cases h2 : a.1 * b.2 > b.1 * a.2 <;> simp [h1, h2]
theorem spec_ivLess_eq (a b : Int × Int) (ha : isRat a = true) (hb : isRat b = true) : spec_ivLess a b = some (minStep a b) := by
 unfold spec_ivLess minStep
 rw [spec_raCmp_eq a b (tame_of ha) (tame_of hb), Option.bind_some, cmp_lt]
 cases h : less a b
 ·simp only [Bool.false_eq_true, if_false]
  cases h2 : less b a
  ·simp only [Bool.false_eq_true, if_false]
   congr 1
   refine (cmp_same ha hb ?_).symm
   simp only [less, decide_eq_false_iff_not] at h h2
   omega
  ·rfl
 ·rw [less_not h]; rfl
theorem spec_ivGreater_eq (a b : Int × Int) (ha : isRat a = true) (hb : isRat b = true) : spec_ivGreater a b = some (maxStep a b) := by
 unfold spec_ivGreater maxStep
 rw [spec_raCmp_eq a b (tame_of ha) (tame_of hb), Option.bind_some, cmp_lt]
 cases less a b <;> rfl
def ratN (G : Nat → Nat → Int) (v : Nat → Int) (n i : Nat) : Int × Int := (lowest (dotN (G i) v n) (v i)).1
section
variable {n : Nat} {G : Nat → Nat → Int} {v : Nat → Int}
theorem minFunc_eq {r : Nat → Int × Int} (h1 : 1 ≤ n) (hn : n ≤ 1048576) (hr : ∀ i, i < n → isRat (r i) = true) : slices_MinFunc_Limpl_Rat_impl_Rat (tab n r) (fun x0 x1 => impl_compare x0 x1) = some (mnN r n) := by
 have h := loop_idx (body := slices_MinFunc_Limpl_Rat_impl_Rat_b1 (tab n r) (fun x0 x1 => impl_compare x0 x1)) (n - 1) (fun i => ((mnN r (i + 1)).1, (mnN r (i + 1)).2, ((i + 1 : Nat) : Int))) (mnN r n) (fun i hi => by
  have hi' : i + 1 < n := by omega
  have b := mn_rat (hr 0 (by omega)) hr (i + 1) (by omega)
  simp only [slices_MinFunc_Limpl_Rat_impl_Rat_b1, tab_len, idxO_tab hi', Option.bind_some, show (((i + 1 : Nat) : Int) < (n : Int)) from by omega, decide_true, if_true, w64_nat (show i + 1 < 9223372036854775807 by omega)]
  rw [show ((mnN r (i + 1)).1, (mnN r (i + 1)).2) = mnN r (i + 1) from rfl, impl_compare_eq _ _ (tame_of (hr _ hi')) (tame_of b.1), Option.bind_some, cmp_lt, mnN_succ r (i + 1)]
  unfold minStep
  cases less (r (i + 1)) (mnN r (i + 1)) <;> simp) (by
  have e : n - 1 + 1 = n := by omega
  simp [slices_MinFunc_Limpl_Rat_impl_Rat_b1, tab_len, e])
 unfold slices_MinFunc_Limpl_Rat_impl_Rat slices_MinFunc_Limpl_Rat_impl_Rat_k1
 have hl : ¬ (n : Int) < 1 := by omega
 simp only [tab_len, hl, decide_false, Bool.false_eq_true, if_false]
 rw [show (0 : Int) = ((0 : Nat) : Int) from rfl, idxO_tab (by omega), Option.bind_some]
 simp only [Nat.zero_add, mnN_one] at h
 have h' : loopO (slices_MinFunc_Limpl_Rat_impl_Rat_b1 (tab n r) (fun x0 x1 => impl_compare x0 x1)) ((r 0).1, (r 0).2, 1) = some (mnN r n) := h
 rw [h']
 rfl
theorem maxFunc_eq {r : Nat → Int × Int} (h1 : 1 ≤ n) (hn : n ≤ 1048576) (hr : ∀ i, i < n → isRat (r i) = true) : slices_MaxFunc_Limpl_Rat_impl_Rat (tab n r) (fun x0 x1 => impl_compare x0 x1) = some (mxN r n) := by
 have h := loop_idx (body := slices_MaxFunc_Limpl_Rat_impl_Rat_b1 (tab n r) (fun x0 x1 => impl_compare x0 x1)) (n - 1) (fun i => ((mxN r (i + 1)).1, (mxN r (i + 1)).2, ((i + 1 : Nat) : Int))) (mxN r n) (fun i hi => by
  have hi' : i + 1 < n := by omega
  have b := mn_rat (hr 0 (by omega)) hr (i + 1) (by omega)
  simp only [slices_MaxFunc_Limpl_Rat_impl_Rat_b1, tab_len, idxO_tab hi', Option.bind_some, show (((i + 1 : Nat) : Int) < (n : Int)) from by omega, decide_true, if_true, w64_nat (show i + 1 < 9223372036854775807 by omega)]
  rw [show ((mxN r (i + 1)).1, (mxN r (i + 1)).2) = mxN r (i + 1) from rfl, impl_compare_eq _ _ (tame_of (hr _ hi')) (tame_of b.2), Option.bind_some, cmp_gt, mxN_succ r (i + 1)]
  unfold maxStep
  cases less (mxN r (i + 1)) (r (i + 1)) <;> simp) (by
  have e : n - 1 + 1 = n := by omega
  simp [slices_MaxFunc_Limpl_Rat_impl_Rat_b1, tab_len, e])
 unfold slices_MaxFunc_Limpl_Rat_impl_Rat slices_MaxFunc_Limpl_Rat_impl_Rat_k1
 have hl : ¬ (n : Int) < 1 := by omega
 simp only [tab_len, hl, decide_false, Bool.false_eq_true, if_false]
 rw [show (0 : Int) = ((0 : Nat) : Int) from rfl, idxO_tab (by omega), Option.bind_some]
 simp only [Nat.zero_add, mxN_one] at h
 have h' : loopO (slices_MaxFunc_Limpl_Rat_impl_Rat_b1 (tab n r) (fun x0 x1 => impl_compare x0 x1)) ((r 0).1, (r 0).2, 1) = some (mxN r n) := h
 rw [h']
 rfl
end
def asked (g : List (List Int)) (u : List Int) : Bool := isGraph g && (isVec u && ((u.length : Int) == (g.length : Int)))
end Go.PV

set_option linter.all false
namespace Go.PV
end Go.PV

/-
 Plain laws: where a lift comes from.
 Conditions: none.
-/
set_option linter.all false
namespace Go.PV
theorem lowQ_eq {n d : Int} (hd : 0 < d) {r : Rt} (h : lowQ n d = some r) : r.1 * d = n * r.2 ∧ 1 ≤ r.2 := by
 have hr := lowQ_rat h
 have h2 := (isRat_iff.1 hr).1
 have hdn : ¬ d < 0 := by omega
 unfold lowQ lowest at h
 simp only [if_neg hdn] at h
 by_cases h3 : isRat (Int.tdiv n (Int.gcd n d : Int), Int.tdiv d (Int.gcd n d : Int)) = true
 ·rw [if_pos h3] at h
  simp only [if_true] at h
  obtain rfl := Option.some.inj h
  have a : (Int.gcd n d : Int) ∣ n := Int.gcd_dvd_left ..
  have b : (Int.gcd n d : Int) ∣ d := Int.gcd_dvd_right ..
  refine ⟨?_, h2⟩
  show Int.tdiv n (Int.gcd n d : Int) * d = n * Int.tdiv d (Int.gcd n d : Int)
  have e1 := Int.tdiv_mul_cancel a
  have e2 := Int.tdiv_mul_cancel b
  generalize Int.tdiv n (Int.gcd n d : Int) = u at *
  generalize Int.tdiv d (Int.gcd n d : Int) = v at *
  generalize (Int.gcd n d : Int) = g at *
  subst e1
  rw [← e2]
  grind
 ·rw [if_neg h3] at h; simp at h
theorem lt_le {a b c : Rt} (ha : isRat a = true) (hb : isRat b = true) (hc : isRat c = true) (h1 : less a b = true) (h2 : less c b = false) : less a c = true := by
 have a2 := (isRat_iff.1 ha).1
 have b2 := (isRat_iff.1 hb).1
 have c2 := (isRat_iff.1 hc).1
 simp only [less, decide_eq_true_eq, decide_eq_false_iff_not] at *
 have m1 := Int.mul_le_mul_of_nonneg_right (show b.1 * c.2 ≤ c.1 * b.2 by omega) (show 0 ≤ a.2 by omega)
 have m2 := Int.mul_lt_mul_of_pos_right h1 (show 0 < c.2 by omega)
 refine Classical.byContradiction fun h3 => ?_
 have m3 := Int.mul_le_mul_of_nonneg_right (show c.1 * a.2 ≤ a.1 * c.2 by omega) (show 0 ≤ b.2 by omega)
 grind
theorem le_le {a b c : Rt} (ha : isRat a = true) (hb : isRat b = true) (hc : isRat c = true) (h1 : less b a = false) (h2 : less c b = false) : less c a = false := by
 cases h : less c a
 ·rfl
 ·have := lt_le hc ha hb h h1
  rw [h2] at this; cases this
def turnK (y x : Rt) : Int := if less (part x) (part y) = true then flr x - flr y - 1 else flr x - flr y
section
variable {n : Nat} {p : Nat → Pt}
def backQ (q r : Pt) (z : Rt) : Option Rt := (subQ z q.2).bind fun u => (divQ u (slopeQ q r)).bind fun v => addQ q.1 v
theorem LiftT.le (h : LiftT n p) : ∀ {i j : Nat}, i ≤ j → j < n → less (p j).2 (p i).2 = false := by
 intro i j hij hj
 induction j with
 | zero =>
  have : i = 0 := by omega
  subst this; simp [less]
 | succ j ih =>
  by_cases he : i = j + 1
  ·subst he; simp [less]
  ·exact le_le (h.cur.y i (by omega)).1 (h.cur.y j (by omega)).1 (h.cur.y (j + 1) hj).1 (ih (by omega) (by omega)) (h.mono (j + 1) (by omega) hj)
structure UpJ (n : Nat) (p : Nat → Pt) (z : Rt) (j : Nat) : Prop where
 pos : 0 < j
 lt : j < n
 bef : ∀ k, k < j → less (p k).2 z = true
 at' : less (p j).2 z = false
structure FlatJ (n : Nat) (p : Nat → Pt) (j : Nat) : Prop where
 pos : 0 < j
 lt : j < n
 same : ∀ k, j < k → k < n → (p (k - 1)).2 = (p k).2
 step : (p (j - 1)).2 ≠ (p j).2
section
variable (h : Curve n p) {z : Rt} (hz : isRat z = true)
include h hz
end
end
end Go.PV

/-
 Plain laws: what fractions stand for.
 Conditions: none.
-/
set_option linter.all false
namespace Go.PV
def val (r : Rt) : Rat := (r.1 : Rat) / (r.2 : Rat)
theorem cast_pos {d : Int} (h : 0 < d) : (0 : Rat) < (d : Rat) := by exact_mod_cast h
theorem val_mul {r : Rt} (h : 0 < r.2) : val r * (r.2 : Rat) = (r.1 : Rat) := by
 have := cast_pos h
 unfold val
 have h2 : (r.2 : Rat) ≠ 0 := by intro h3; rw [h3] at this; exact absurd this (by decide)
 grind
theorem lt_iff {a b c d : Int} (hb : 0 < b) (hd : 0 < d) {x y : Rat} (hx : x * (b : Rat) = (a : Rat)) (hy : y * (d : Rat) = (c : Rat)) : a * d < c * b ↔ x < y := by
 have pb := cast_pos hb
 have pd := cast_pos hd
 have e : ((a * d : Int) : Rat) < ((c * b : Int) : Rat) ↔ a * d < c * b := by exact_mod_cast Iff.rfl
 rw [← e, Rat.intCast_mul, Rat.intCast_mul, ← hx, ← hy]
 constructor
 ·intro h
  refine Classical.byContradiction fun hno => ?_
  have h1 : y ≤ x := by grind
  have h2 := Rat.mul_le_mul_of_nonneg_left h1 (Rat.le_of_lt (Rat.mul_pos pb pd))
  grind
 ·intro h
  have h2 := Rat.mul_lt_mul_of_pos_left h (Rat.mul_pos pb pd)
  grind
theorem less_val {a b : Rt} (ha : 0 < a.2) (hb : 0 < b.2) : less a b = true ↔ val a < val b := by
 rw [← lt_iff ha hb (val_mul ha) (val_mul hb)]
 simp [less]
theorem less_val_no {a b : Rt} (ha : 0 < a.2) (hb : 0 < b.2) : less a b = false ↔ val b ≤ val a := by
 have := less_val ha hb
 cases h : less a b
 ·rw [h] at this
  have : ¬ val a < val b := fun h1 => by have := this.2 h1; cases this
  exact ⟨fun _ => by grind, fun _ => rfl⟩
 ·rw [h] at this
  have := this.1 rfl
  exact ⟨fun h => (by cases h), fun h => (by grind)⟩
theorem lowQ_val {n d : Int} (hd : 0 < d) {r : Rt} (h : lowQ n d = some r) : val r * (d : Rat) = (n : Rat) := by
 obtain ⟨e, hp⟩ := lowQ_eq hd h
 have h2 := val_mul (r := r) (by omega)
 have p2 := cast_pos (d := r.2) (by omega)
 have pd := cast_pos hd
 have e2 : (r.1 : Rat) * (d : Rat) = (n : Rat) * (r.2 : Rat) := by exact_mod_cast e
 have h3 : (r.2 : Rat) ≠ 0 := by intro h3; rw [h3] at p2; exact absurd p2 (by decide)
 rw [← h2] at e2
 grind
theorem ne0 {d : Int} (h : 0 < d) : (d : Rat) ≠ 0 := by
 have := cast_pos h
 intro h3; rw [h3] at this; exact absurd this (by decide)
section
variable {a b r : Rt} (ha : isRat a = true) (hb : isRat b = true)
include ha hb
theorem addQ_val (h : addQ a b = some r) : val r = val a + val b := by
 have a2 := (isRat_iff.1 ha).1
 have b2 := (isRat_iff.1 hb).1
 have e := lowQ_val (den_pos ha hb) h
 have e1 := val_mul (r := a) (by omega)
 have e2 := val_mul (r := b) (by omega)
 have n1 := ne0 (d := a.2) (by omega)
 have n2 := ne0 (d := b.2) (by omega)
 rw [Rat.intCast_add, Rat.intCast_mul, Rat.intCast_mul, Rat.intCast_mul, ← e1, ← e2] at e
 grind
theorem subQ_val (h : subQ a b = some r) : val r = val a - val b := by
 have a2 := (isRat_iff.1 ha).1
 have b2 := (isRat_iff.1 hb).1
 have e := lowQ_val (den_pos ha hb) h
 have e1 := val_mul (r := a) (by omega)
 have e2 := val_mul (r := b) (by omega)
 have n1 := ne0 (d := a.2) (by omega)
 have n2 := ne0 (d := b.2) (by omega)
 rw [Rat.intCast_sub, Rat.intCast_mul, Rat.intCast_mul, Rat.intCast_mul, ← e1, ← e2] at e
 grind
theorem mulQ_val (h : mulQ a b = some r) : val r = val a * val b := by
 have a2 := (isRat_iff.1 ha).1
 have b2 := (isRat_iff.1 hb).1
 have e := lowQ_val (den_pos ha hb) h
 have e1 := val_mul (r := a) (by omega)
 have e2 := val_mul (r := b) (by omega)
 have n1 := ne0 (d := a.2) (by omega)
 have n2 := ne0 (d := b.2) (by omega)
 rw [Rat.intCast_mul, Rat.intCast_mul, ← e1, ← e2] at e
 grind
theorem divQ_val (hp : 0 < b.1) (h : divQ a b = some r) : val r * val b = val a := by
 have a2 := (isRat_iff.1 ha).1
 have b2 := (isRat_iff.1 hb).1
 unfold divQ at h
 rw [if_neg (by omega)] at h
 have e := lowQ_val (Int.mul_pos (by omega) hp) h
 have e1 := val_mul (r := a) (by omega)
 have e2 := val_mul (r := b) (by omega)
 have n1 := ne0 (d := a.2) (by omega)
 have n2 := ne0 (d := b.2) (by omega)
 rw [Rat.intCast_mul, Rat.intCast_mul, ← e1, ← e2] at e
 grind
end
theorem unit_val {r : Rt} (hr : isRat r = true) : isUnit r = true ↔ (0 : Rat) ≤ val r ∧ val r ≤ 1 := by
 have r2 := (isRat_iff.1 hr).1
 have e := val_mul (r := r) (by omega)
 have p := cast_pos (d := r.2) (by omega)
 simp only [isUnit, Bool.and_eq_true, inB_iff, hr, true_and]
 have h1 := lt_iff (a := r.1) (b := r.2) (c := 0) (d := 1) (x := val r) (y := 0) (by omega) (by omega) e (by simp)
 have h2 := lt_iff (a := 1) (b := 1) (c := r.1) (d := r.2) (x := 1) (y := val r) (by omega) (by omega) (by simp) e
 constructor
 ·intro ⟨h3, h4⟩
  constructor
  ·refine Classical.byContradiction fun hno => ?_
   have := h1.2 (by grind)
   omega
  ·refine Classical.byContradiction fun hno => ?_
   have := h2.2 (by grind)
   omega
 ·intro ⟨h3, h4⟩
  constructor
  ·refine Classical.byContradiction fun hno => ?_
   have := h1.1 (by omega)
   grind
  ·refine Classical.byContradiction fun hno => ?_
   have := h2.1 (by omega)
   grind
end Go.PV

/-
 Plain laws: the laps of a map.
 Conditions: none.
-/
set_option linter.all false
namespace Go.PV
abbrev Trip := Nat × Nat × Int
def encT (t : Trip) : List Int := [(t.1 : Int), (t.2.1 : Int), t.2.2]
def lapStep (l : List Trip) (i : Nat) (s : Int) : List Trip := match l.getLast? with
 | some t => if t.2.2 = s then l.dropLast ++ [(t.1, i + 1, s)] else l ++ [(i, i + 1, s)]
 | none => l ++ [(i, i + 1, s)]
def lapsN (σ : Nat → Int) : Nat → List Trip
 | 0 => []
 | i + 1 => lapStep (lapsN σ i) i (σ i)
structure LapInv (σ : Nat → Int) (i : Nat) : Prop where
 len : (lapsN σ i).length ≤ i
 ne : 0 < i → lapsN σ i ≠ []
 bd : ∀ t ∈ lapsN σ i, t.1 < t.2.1 ∧ t.2.1 ≤ i
def sg (n : Int) : Int := if 0 < n then 1 else if n < 0 then -1 else 0
section
variable {m : Nat} {r : Nat → Rt}
end
section
variable {n : Nat} {p : Nat → Pt}
def wayOf (p : Nat → Pt) : Nat → Int := fun i => sg (slopeQ (p i) (p (i + 1))).1
def lapsT (n : Nat) (p : Nat → Pt) : List Trip := lapsN (wayOf p) (n - 1)
end
def lbN (c : Int) : Nat → Int → Int × Bool
 | 0, o => (o, true)
 | k + 1, o => if o * c > 1000000000 then (0, false) else lbN c k (o * c)
def fullB (a b : Rt) : Bool := (a == (0, 1) && b == (1, 1)) || (a == (1, 1) && b == (0, 1))
section
variable {n : Nat} {p : Nat → Pt}
def fullN (p : Nat → Pt) (l : List Trip) : Nat := (l.filter fun t => fullB (p t.1).2 (p t.2.1).2).length
end
end Go.PV

/-
 Plain laws: marks on lists, and that they are held.
 Conditions: none.
-/
set_option linter.all false
namespace Go.PV
section
variable {α : Type}
def marks (w : Nat) (f : Int → α) (n : Nat) (k : Int) : List α := tab n fun i => f (k + (w : Int) * i)
end
def markI (n : Nat) (k : Int) : List Int := marks 1 (fun c => c) n k
def markR (n : Nat) (k : Int) : List (Int × Int) := marks 2 (fun c => (c, c + 1)) n k
end Go.PV

/-
 Plain laws: values of the turning point.
 Conditions: none.
-/
set_option linter.all false
namespace Go.PV
section
variable {n : Nat} {p : Nat → Pt}
noncomputable def vQ (n : Nat) (p : Nat → Pt) (c : Rt) : Nat → Option Rt
 | 0 => some c
 | k + 1 => (vQ n p c k).bind (atQ n p)
noncomputable def vv (n : Nat) (p : Nat → Pt) (c : Rt) (k : Nat) : Rt := (vQ n p c k).getD (0, 0)
variable {c : Rt}
theorem vQ_none {k m : Nat} (h : vQ n p c k = none) (hm : k ≤ m) : vQ n p c m = none := by
  induction m with
  | zero => have : k = 0 := by omega
            subst this; exact h
  | succ m ih =>
    by_cases hk : k = m + 1
    · subst hk; exact h
    · simp [vQ, ih (by omega)]
structure Stop (n : Nat) (p : Nat → Pt) (c : Rt) (m L : Nat) : Prop where
 le : L ≤ m
 some : vQ n p c L = some (vv n p c L)
 stop : L = m ∨ vQ n p c (L + 1) = none
theorem Stop.uniq {m L L' : Nat} (h : Stop n p c m L) (h' : Stop n p c m L') : L = L' := by
 rcases Nat.lt_trichotomy L L' with h1 | h1 | h1
 ·rcases h.stop with h2 | h2
  ·have := h'.le; omega
  ·have := vQ_none h2 (show L + 1 ≤ L' by omega)
   rw [h'.some] at this; cases this
 ·exact h1
 ·rcases h'.stop with h2 | h2
  ·have := h.le; omega
  ·have := vQ_none h2 (show L' + 1 ≤ L by omega)
   rw [h.some] at this; cases this
end
section
variable {n : Nat} {p : Nat → Pt} {t0 t1 : Trip}
end
end Go.PV

set_option linter.all false
namespace Go.PV
def flatP (xs : List Pt) (n : Nat) : Prop := ∃ i a b, 0 < i ∧ i < n ∧ xs[i - 1]? = some a ∧ xs[i]? = some b ∧ a.2 = b.2
end Go.PV

/-
 Plain laws: plateaus.
 Conditions: none.
-/
set_option linter.all false
namespace Go.PV
def markV (n : Nat) (k : Int) : List Pt := marks 4 (fun c => ((c, c + 1), (c + 1 + 1, c + 1 + 1 + 1))) n k
end Go.PV

/-
 Plain laws: orbits of lifts.
 Conditions: none.
-/
set_option linter.all false
namespace Go.PV
section
variable {n : Nat} {p : Nat → Pt} {x : Rt}
noncomputable def orbQ (n : Nat) (p : Nat → Pt) (x : Rt) : Nat → Option Rt
 | 0 => some x
 | k + 1 => (orbQ n p x k).bind fun y => if near y = true then liftQ n p y else none
noncomputable def orb (n : Nat) (p : Nat → Pt) (x : Rt) (k : Nat) : Rt := (orbQ n p x k).getD (0, 0)
theorem orbQ_none {k m : Nat} (h : orbQ n p x k = none) (hm : k ≤ m) : orbQ n p x m = none := by
  induction m with
  | zero => have : k = 0 := by omega
            subst this; exact h
  | succ m ih =>
    by_cases hk : k = m + 1
    · subst hk; exact h
    · simp [orbQ, ih (by omega)]
theorem orbQ_some {k m : Nat} {y : Rt} (h : orbQ n p x m = some y) (hm : k ≤ m) : orbQ n p x k = some (orb n p x k) := by
 cases h1 : orbQ n p x k with
 | none => rw [orbQ_none h1 hm] at h; cases h
 | some z => simp [orb, h1]
theorem orbQ_rat (hx : isRat x = true) : ∀ {k : Nat} {y : Rt}, orbQ n p x k = some y → isRat y = true
 | 0, y, h => by obtain rfl := Option.some.inj h; exact hx
 | k + 1, y, h => by
  obtain ⟨z, _, h⟩ := Option.bind_eq_some_iff.1 h
  split at h
  ·exact liftQ_rat h
  ·cases h
open Classical in
noncomputable def runR (n : Nat) (p : Nat → Pt) (x : Rt) (m : Nat) : List Rt × Bool := if (orbQ n p x m).isSome = true then (tab (m + 1) (orb n p x), true) else ([], false)
theorem runR_none {m : Nat} (h : orbQ n p x m = none) : runR n p x m = ([], false) := by simp [runR, h]
theorem runR_some {m : Nat} {y : Rt} (h : orbQ n p x m = some y) : runR n p x m = (tab (m + 1) (orb n p x), true) := by simp [runR, h]
theorem orb_zero : orb n p x 0 = x := rfl
theorem spec_liRun_eq (h : Curve n p) (m : Nat) (hm : m ≤ 1048576) : spec_liRun (tab n p) x (m : Int) = some (runR n p x m) := by
 obtain ⟨y, h3, h4⟩ := loop_run (body := spec_liRun_b1 (tab n p) (m : Int)) (fun l => ∃ i : Nat, i ≤ m ∧ l = tab (i + 1) (orb n p x) ∧ orbQ n p x i = some (orb n p x i)) (fun l => m + 1 - l.length)
  (fun y => (y = .inl ([], false) ∧ orbQ n p x m = none) ∨ (y = .inr (tab (m + 1) (orb n p x)) ∧ ∃ z, orbQ n p x m = some z)) (fun l ⟨i, hi, e, hq⟩ => by
   subst e
   by_cases hlt : i < m
   ·have e1 : w64 (((i + 1 : Nat) : Int) - 1) = ((i : Nat) : Int) := by rw [w64_pred (by omega) (by omega)]; rfl
    simp only [spec_liRun_b1, tab_len, show (((i + 1 : Nat) : Int) ≤ (m : Int)) from by omega, decide_true, if_true, e1, idxO_tab (show i < i + 1 by omega), Option.bind_some, spec_liNear_eq]
    cases hn : near (orb n p x i)
    ·right; exact ⟨_, by simp, .inl ⟨rfl, orbQ_none (k := i + 1) (by simp [orbQ, hq, hn]) (by omega)⟩⟩
    ·have e2 : orbQ n p x (i + 1) = liftQ n p (orb n p x i) := by simp [orbQ, hq, hn]
     simp only [Bool.not_true, Bool.false_eq_true, if_false, spec_liAt_eq h hn, Option.bind_some]
     cases hl : liftQ n p (orb n p x i) with
     | none => right; exact ⟨_, by simp [unO], .inl ⟨rfl, orbQ_none (k := i + 1) (by rw [e2, hl]) (by omega)⟩⟩
     | some z =>
      have e3 : orb n p x (i + 1) = z := by unfold orb; rw [e2, hl]; rfl
      left
      refine ⟨tab (i + 1) (orb n p x) ++ [z], ?_, ⟨i + 1, hlt, by rw [← e3, tab_succ], by rw [e2, hl, e3]⟩, by simp [tab_len]; omega⟩
      simp only [unO, Bool.not_true, Bool.false_eq_true, if_false]
      rw [guardO_bind_pos (by simp; omega)]
   ·have : i = m := by omega
    subst this
    right
    exact ⟨.inr (tab (i + 1) (orb n p x)), by simp [spec_liRun_b1, tab_len]; omega, .inr ⟨rfl, _, hq⟩⟩) [x] ⟨0, by omega, rfl, rfl⟩
 unfold spec_liRun
 rw [h3]
 rcases h4 with ⟨rfl, h4⟩ | ⟨rfl, z, h4⟩
 ·rw [runR_none h4]; rfl
 ·rw [runR_some h4]; rfl
theorem impl_liftOrbit_eq (h : Curve n p) (m : Nat) (hm : m ≤ 1048576) : impl_liftOrbit (tab n p) x (m : Int) = some (runR n p x m) := by
 obtain ⟨y, h3, h4⟩ := loop_run (body := impl_liftOrbit_b1 (tab n p) (m : Int)) (fun s => ∃ i : Nat, i ≤ m ∧ s = ((orb n p x i).1, (orb n p x i).2, false, tab (i + 1) (orb n p x), (i : Int)) ∧ orbQ n p x i = some (orb n p x i)) (fun s => m - s.2.2.2.2.toNat)
  (fun y => (y = .inl ([], false) ∧ orbQ n p x m = none) ∨ (y = .inr (tab (m + 1) (orb n p x)) ∧ ∃ z, orbQ n p x m = some z)) (fun l ⟨i, hi, e, hq⟩ => by
   subst e
   by_cases hlt : i < m
   ·simp only [impl_liftOrbit_b1, show ((i : Int) < (m : Int)) from by omega, decide_true, if_true, Option.bind_some, impl_isFar_eq]
    cases hn : near (orb n p x i)
    ·right; exact ⟨_, by simp, .inl ⟨rfl, orbQ_none (k := i + 1) (by simp [orbQ, hq, hn]) (by omega)⟩⟩
    ·have e2 : orbQ n p x (i + 1) = liftQ n p (orb n p x i) := by simp [orbQ, hq, hn]
     obtain ⟨v, e4, e5, e6⟩ := impl_lift_eq h hn false
     simp only [Bool.not_true, Bool.false_eq_true, if_false, e4, Option.bind_some]
     cases hl : liftQ n p (orb n p x i) with
     | none => rw [hl] at e6; simp only at e6; right; exact ⟨_, by rw [e6]; rfl, .inl ⟨rfl, orbQ_none (k := i + 1) (by rw [e2, hl]) (by omega)⟩⟩
     | some z =>
      rw [hl] at e6
      simp only at e6
      subst e6
      have e3 : orb n p x (i + 1) = z := by unfold orb; rw [e2, hl]; rfl
      left
      refine ⟨_, by
       simp only [Bool.false_eq_true, if_false]
       rw [guardO_bind_pos (by simp [tab_len]; omega)], ⟨i + 1, hlt, by rw [e3, ← tab_succ (i + 1), e3, w64_nat (show i < 9223372036854775807 by omega)], by rw [e2, hl, e3]⟩, by simp only [w64_nat (show i < 9223372036854775807 by omega), Int.toNat_natCast]; omega⟩
   ·have : i = m := by omega
    subst this
    right
    exact ⟨.inr (tab (i + 1) (orb n p x)), by simp [impl_liftOrbit_b1], .inr ⟨rfl, _, hq⟩⟩) (x.1, x.2, false, [x], 0) ⟨0, by omega, rfl, rfl⟩
 unfold impl_liftOrbit
 rw [h3]
 rcases h4 with ⟨rfl, h4⟩ | ⟨rfl, z, h4⟩
 ·rw [runR_none h4]; rfl
 ·rw [runR_some h4]; rfl
end
theorem impl_LiftOrbit_eq (f : List Pt) (x : Rt) (m : Int) (hl : f.length ≤ 4611686018427387904) :
  (isLift f = true ∧ near x = true ∧ inB 0 60 m = true ∧ ∃ n p k, f = tab n p ∧ LiftT n p ∧ m = (k : Nat) ∧ k ≤ 60 ∧ impl_LiftOrbit f x m = some (runR n p x k) ∧ spec_liRun f x m = some (runR n p x k)) ∨
  ((isLift f && (near x && inB 0 60 m)) = false ∧ impl_LiftOrbit f x m = some ([], false)) := by
 obtain ⟨h1, h2⟩ := both_isLift f hl
 unfold impl_LiftOrbit
 rw [h2]
 cases hf : isLift f
 ·exact .inr ⟨rfl, rfl⟩
 ·simp only [Option.bind_some, Bool.not_true, Bool.false_eq_true, if_false, impl_isFar_eq, impl_within_eq]
  cases hx : near x
  ·exact .inr ⟨rfl, rfl⟩
  ·cases hm : inB 0 60 m
   ·exact .inr ⟨rfl, rfl⟩
   ·obtain ⟨n, p, rfl, hL⟩ := isLift_tab hf
    obtain ⟨m1, m2⟩ := inB_iff.1 hm
    obtain ⟨k, rfl⟩ := Int.eq_ofNat_of_zero_le m1
    refine .inl ⟨by first | rfl | trivial, by first | rfl | trivial, by first | rfl | trivial, n, p, k, rfl, hL, rfl, by omega, ?_, spec_liRun_eq hL.cur k (by omega)⟩
    have := impl_liftOrbit_eq (x := x) hL.cur k (by omega)
    simp [this]
theorem inB_1_60 (m : Int) : inB 1 60 m = (inB 0 60 m && !decide (m < 1)) := by
 cases h : inB 1 60 m
 ·symm
  rw [Bool.and_eq_false_iff]
  by_cases h2 : m < 1
  ·right; simp [h2]
  ·left
   refine Classical.byContradiction fun hno => ?_
   have h3 : inB 0 60 m = true := by simpa using hno
   have := inB_iff.1 h3
   have h4 : inB 1 60 m = true := inB_iff.2 ⟨by omega, this.2⟩
   rw [h] at h4; cases h4
 ·have := inB_iff.1 h
  have h3 : inB 0 60 m = true := inB_iff.2 ⟨by omega, this.2⟩
  simp [h3, show ¬ m < 1 by omega]
theorem both_LiftCycle (f : List Pt) (x : Rt) (m : Int) (hl : f.length ≤ 4611686018427387904) : ∃ r, spec_LiftCycle f x m = some r ∧ impl_LiftCycle f x m = some r := by
 obtain ⟨h1, h2⟩ := both_isLift f hl
 unfold spec_LiftCycle impl_LiftCycle
 rw [h1]
 by_cases h0 : m < 1
 ·refine ⟨(0, false), ?_, by simp [h0]⟩
  cases isLift f
  ·rfl
  ·simp only [Option.bind_some, Bool.not_true, Bool.false_eq_true, if_false, spec_liNear_eq]
   cases near x
   ·rfl
   ·simp [spec_l1In_eq, inB_1_60, h0]
 ·rcases impl_LiftOrbit_eq f x m hl with ⟨a, b, c, n, p, k, rfl, hL, rfl, hk, e1, e2⟩ | ⟨a, b⟩
  ·have hr := (near_rat b).1
   simp only [h0, decide_false, Bool.false_eq_true, if_false, e1, Option.bind_some, a, Bool.not_true, spec_liNear_eq, b, spec_l1In_eq, inB_1_60, c, Bool.not_false, Bool.and_self, spec_liCycle, e2]
   cases hq : orbQ n p x k with
   | none => rw [runR_none hq]; exact ⟨_, rfl, rfl⟩
   | some z =>
    rw [runR_some hq]
    have e3 : orb n p x k = z := by simp [orb, hq]
    have hz := orbQ_rat hr hq
    simp only [Bool.not_true, Bool.false_eq_true, if_false, idxO_tab (show k < k + 1 by omega), e3, Option.bind_some, spec_raSub_eq hz hr, impl_difference, impl_SubtractRats_q hz hr]
    generalize unO (subQ z x) = w
    cases (!w.2 || (w.1.2 != 1)) <;> exact ⟨_, rfl, rfl⟩
  ·refine ⟨(0, false), ?_, by simp [h0, b]⟩
   cases h3 : isLift f
   ·rfl
   ·simp only [Option.bind_some, Bool.not_true, Bool.false_eq_true, if_false, spec_liNear_eq]
    cases h4 : near x
    ·rfl
    ·rw [h3, h4] at a
     simp only [Bool.true_and] at a
     simp [spec_l1In_eq, inB_1_60, a]
def turnB (r : Rt) : Bool := near r && decide (r.2 ≤ 6)
end Go.PV

/-
 Plain laws: orbits of lifts, handed back.
 Conditions: none.
-/
set_option linter.all false
namespace Go.PV
theorem both_LiftOrbit (f : List Pt) (x : Rt) (m : Int) (hl : f.length ≤ 4611686018427387904) : ∃ r ok, r.length ≤ 1048576 ∧ spec_LiftOrbit f x m = some (r, ok) ∧ impl_LiftOrbit f x m = some (r, ok) := by
 obtain ⟨h1, h2⟩ := both_isLift f hl
 rcases impl_LiftOrbit_eq f x m hl with ⟨a, b, c, n, p, k, rfl, hL, rfl, hk, e1, e2⟩ | ⟨a, b⟩
 ·refine ⟨(runR n p x k).1, (runR n p x k).2, ?_, ?_, e1⟩
  ·unfold runR
   split
   ·rw [tab_len]; omega
   ·simp
  ·unfold spec_LiftOrbit
   rw [h1]
   simp only [Option.bind_some, a, Bool.not_true, Bool.false_eq_true, if_false, spec_liNear_eq, b, spec_orSteps, spec_l1In_eq, c, e2]
 ·refine ⟨[], false, by simp, ?_, b⟩
  unfold spec_LiftOrbit
  rw [h1]
  cases h3 : isLift f
  ·rfl
  ·simp only [Option.bind_some, Bool.not_true, Bool.false_eq_true, if_false, spec_liNear_eq]
   cases h4 : near x
   ·rfl
   ·rw [h3, h4] at a
    simp only [Bool.true_and] at a
    simp [spec_orSteps, spec_l1In_eq, a]
end Go.PV

/-
 Plain laws: how far a lift's points are moved.
 Conditions: none.
-/
set_option linter.all false
namespace Go.PV
def dispF (p : Nat → Pt) (i : Nat) : Rt := (subQ (p i).2 (p i).1).getD (0, 0)
section
variable {n : Nat} {p : Nat → Pt}
theorem disp_some (h : Curve n p) {i : Nat} (hi : i < n) : subQ (p i).2 (p i).1 = some (dispF p i) ∧ isRat (dispF p i) = true := by
 obtain ⟨r, _, e, _⟩ := sub_small (h.y i hi) (small_coord (h.x i hi))
 have : dispF p i = r := by unfold dispF; rw [e]; rfl
 rw [this]
 exact ⟨e, subQ_rat e⟩
theorem impl_moves_eq (h : Curve n p) : impl_calc_moves false (tab n p) = some (mnN (dispF p) n, mxN (dispF p) n, false) := by
 have h1 := h.lo
 have h2 := h.hi
 have hr : ∀ i, i < n → isRat (dispF p i) = true := fun i hi => (disp_some h hi).2
 have hx := loop_idx (body := impl_calc_moves_b1 (tab n p)) n (fun i => (false, tab i (dispF p), (i : Int))) (false, tab n (dispF p)) (fun i hi => by
  simp only [impl_calc_moves_b1, tab_len, idxO_tab hi, Option.bind_some, show ((i : Int) < (n : Int)) from by omega, decide_true, if_true, impl_sub_eq false (h.y i hi).1 (coord_rat (h.x i hi)), (disp_some h hi).1, cK, w64_nat (show i < 9223372036854775807 by omega)]
  rw [guardO_bind_pos (by simp; omega), ← tab_succ i (dispF p)]) (by simp [impl_calc_moves_b1, tab_len])
 have hx' : loopO (impl_calc_moves_b1 (tab n p)) (false, [], 0) = some (false, tab n (dispF p)) := hx
 unfold impl_calc_moves
 rw [hx', Option.bind_some]
 simp only [impl_calc_moves_k1, minFunc_eq (show 1 ≤ n by omega) (show n ≤ 1048576 by omega) hr, maxFunc_eq (show 1 ≤ n by omega) (show n ≤ 1048576 by omega) hr, Option.bind_some]
theorem both_disp (h : Curve n p) (hs : spec_liGood (tab n p) = some true) (hi : impl_isLift (tab n p) = some true) : ∃ r, spec_Displacements (tab n p) = some r ∧ impl_Displacements (tab n p) = some r := by
 have h1 := h.lo
 have h2 := h.hi
 have hr : ∀ i, i < n → isRat (dispF p i) = true := fun i hi => (disp_some h hi).2
 refine ⟨(mnN (dispF p) n, mxN (dispF p) n, true), ?_, by unfold impl_Displacements; rw [hi]; simp [impl_moves_eq h]⟩
 have hx := loop_idx (body := spec_Displacements_b1 (tab n p)) n (fun i => ((mnN (dispF p) i).1, (mnN (dispF p) i).2, (mxN (dispF p) i).1, (mxN (dispF p) i).2, (i : Int))) ((mnN (dispF p) n).1, (mnN (dispF p) n).2, (mxN (dispF p) n).1, (mxN (dispF p) n).2) (fun i hi => by
  have b := mn_rat (hr 0 (by omega)) hr i (by omega)
  simp only [spec_Displacements_b1, tab_len, idxO_tab hi, Option.bind_some, show ((i : Int) < (n : Int)) from by omega, decide_true, if_true, w64_nat (show i < 9223372036854775807 by omega), spec_raSub_eq (h.y i hi).1 (coord_rat (h.x i hi)), (disp_some h hi).1, unO]
  rw [show ((mnN (dispF p) i).1, (mnN (dispF p) i).2) = mnN (dispF p) i from rfl, show ((mxN (dispF p) i).1, (mxN (dispF p) i).2) = mxN (dispF p) i from rfl, spec_ivLess_eq _ _ b.1 (hr i hi), spec_ivGreater_eq _ _ b.2 (hr i hi)]
  simp only [Option.bind_some, mnN_succ, mxN_succ]) (by simp [spec_Displacements_b1, tab_len])
 have hx' : loopO (spec_Displacements_b1 (tab n p)) ((dispF p 0).1, (dispF p 0).2, (dispF p 0).1, (dispF p 0).2, 0) = some ((mnN (dispF p) n).1, (mnN (dispF p) n).2, (mxN (dispF p) n).1, (mxN (dispF p) n).2) := hx
 unfold spec_Displacements
 rw [hs]
 simp only [Option.bind_some, Bool.not_true, Bool.false_eq_true, if_false]
 rw [show (0 : Int) = ((0 : Nat) : Int) from rfl, idxO_tab (show 0 < n by omega), Option.bind_some, spec_raSub_eq (h.y 0 (by omega)).1 (coord_rat (h.x 0 (by omega))), (disp_some h (show 0 < n by omega)).1]
 simp only [unO, Option.bind_some]
 rw [show ((0 : Nat) : Int) = 0 from rfl, hx']
 rfl
end
end Go.PV

/-
 Plain laws: values of lifts keep their order.
 Conditions: none.
-/
set_option linter.all false
namespace Go.PV
theorem frac_same {a b : Rt} (ga : Int.gcd a.1 a.2 = 1) (gb : Int.gcd b.1 b.2 = 1) (pa : 0 < a.2) (pb : 0 < b.2) (h : a.1 * b.2 = b.1 * a.2) : a = b := by
 obtain ⟨p, q⟩ := a
 obtain ⟨r, s⟩ := b
 simp only at *
 have hn : p.natAbs * s.natAbs = r.natAbs * q.natAbs := by rw [← Int.natAbs_mul, ← Int.natAbs_mul, h]
 have c1 : Nat.Coprime p.natAbs q.natAbs := ga
 have c2 : Nat.Coprime r.natAbs s.natAbs := gb
 have d1 : s.natAbs ∣ q.natAbs := by
  have : s.natAbs ∣ r.natAbs * q.natAbs := ⟨p.natAbs, by rw [← hn]; exact Nat.mul_comm _ _⟩
  exact c2.symm.dvd_of_dvd_mul_left this
 have d2 : q.natAbs ∣ s.natAbs := by
  have : q.natAbs ∣ p.natAbs * s.natAbs := ⟨r.natAbs, by rw [hn]; exact Nat.mul_comm _ _⟩
  exact c1.symm.dvd_of_dvd_mul_left this
 have hqs : q.natAbs = s.natAbs := Nat.dvd_antisymm d2 d1
 have hq : q = s := by omega
 subst hq
 have : p = r := Int.eq_of_mul_eq_mul_right (by omega) h
 rw [this]
theorem val_inj {a b : Rt} (ha : isRat a = true) (hb : isRat b = true) (h : val a = val b) : a = b := by
 have a2 := (isRat_iff.1 ha).1
 have b2 := (isRat_iff.1 hb).1
 have e1 := val_mul (r := a) (by omega)
 have e2 := val_mul (r := b) (by omega)
 refine cmp_same ha hb ?_
 have : ((a.1 * b.2 : Int) : Rat) = ((b.1 * a.2 : Int) : Rat) := by
  rw [Rat.intCast_mul, Rat.intCast_mul, ← e1, ← e2, h]; grind
 exact_mod_cast this
theorem lowQ_of {n d : Int} (hd : 0 < d) {r : Rt} (hr : isRat r = true) (h : n * r.2 = r.1 * d) : lowQ n d = some r := by
 obtain ⟨r1, r2, r3, r4, r5⟩ := isRat_iff.1 hr
 have hdn : ¬ d < 0 := by omega
 have hg : 0 < Int.gcd n d := Int.gcd_pos_of_ne_zero_right _ (by omega)
 have a : (Int.gcd n d : Int) ∣ n := Int.gcd_dvd_left ..
 have b : (Int.gcd n d : Int) ∣ d := Int.gcd_dvd_right ..
 have e1 := Int.tdiv_mul_cancel a
 have e2 := Int.tdiv_mul_cancel b
 have key : (Int.tdiv n (Int.gcd n d : Int), Int.tdiv d (Int.gcd n d : Int)) = r := by
  refine frac_same ?_ r5 ?_ (by omega) ?_
  ·show Int.gcd (Int.tdiv n (Int.gcd n d : Int)) (Int.tdiv d (Int.gcd n d : Int)) = 1
   obtain ⟨u, hu⟩ := a
   obtain ⟨v, hv⟩ := b
   have eu : Int.tdiv n (Int.gcd n d : Int) = n / (Int.gcd n d : Int) := Int.tdiv_eq_ediv_of_dvd (Int.gcd_dvd_left ..)
   have ev : Int.tdiv d (Int.gcd n d : Int) = d / (Int.gcd n d : Int) := Int.tdiv_eq_ediv_of_dvd (Int.gcd_dvd_right ..)
   rw [eu, ev]
   exact Int.gcd_ediv_gcd_ediv_gcd hg
  ·show 0 < Int.tdiv d (Int.gcd n d : Int)
   refine Classical.byContradiction fun hno => ?_
   have h1 : Int.tdiv d (Int.gcd n d : Int) ≤ 0 := by omega
   have := Int.mul_le_mul_of_nonneg_right h1 (show (0 : Int) ≤ (Int.gcd n d : Int) by omega)
   omega
  ·show Int.tdiv n (Int.gcd n d : Int) * r.2 = r.1 * Int.tdiv d (Int.gcd n d : Int)
   refine Int.eq_of_mul_eq_mul_right (a := (Int.gcd n d : Int)) (by omega) ?_
   have h3 : Int.tdiv n (Int.gcd n d : Int) * r.2 * (Int.gcd n d : Int) = (Int.tdiv n (Int.gcd n d : Int) * (Int.gcd n d : Int)) * r.2 := by grind
   have h4 : r.1 * Int.tdiv d (Int.gcd n d : Int) * (Int.gcd n d : Int) = r.1 * (Int.tdiv d (Int.gcd n d : Int) * (Int.gcd n d : Int)) := by grind
   rw [h3, h4, e1, e2, h]
 unfold lowQ lowest
 simp only [if_neg hdn]
 rw [key, if_pos hr]
 rfl
theorem lowQ_of_val {n d : Int} (hd : 0 < d) {r : Rt} (hr : isRat r = true) (h : val r * (d : Rat) = (n : Rat)) : lowQ n d = some r := by
 refine lowQ_of hd hr ?_
 have e := val_mul (r := r) (by have := (isRat_iff.1 hr).1; omega)
 have : ((n * r.2 : Int) : Rat) = ((r.1 * d : Int) : Rat) := by
  rw [Rat.intCast_mul, Rat.intCast_mul, ← h, ← e]; grind
 exact_mod_cast this
theorem addQ_of {a b r : Rt} (ha : isRat a = true) (hb : isRat b = true) (hr : isRat r = true) (h : val r = val a + val b) : addQ a b = some r := by
 have a2 := (isRat_iff.1 ha).1
 have b2 := (isRat_iff.1 hb).1
 have e1 := val_mul (r := a) (by omega)
 have e2 := val_mul (r := b) (by omega)
 refine lowQ_of_val (den_pos ha hb) hr ?_
 rw [Rat.intCast_add, Rat.intCast_mul, Rat.intCast_mul, Rat.intCast_mul, ← e1, ← e2, h]
 grind
section
variable {n : Nat} {p : Nat → Pt}
theorem rt_pos {r : Rt} (h : isRat r = true) : 0 < r.2 := by have := (isRat_iff.1 h).1; omega
theorem Curve.xr (h : Curve n p) {i : Nat} (hi : i < n) : isRat (p i).1 = true := coord_rat (h.x i hi)
theorem Curve.yr (h : Curve n p) {i : Nat} (hi : i < n) : isRat (p i).2 = true := (h.y i hi).1
theorem Curve.xlt (h : Curve n p) : ∀ {i j : Nat}, i < j → j < n → val (p i).1 < val (p j).1 := by
 intro i j hij hj
 obtain ⟨k, rfl⟩ : ∃ k, j = i + 1 + k := ⟨j - (i + 1), by omega⟩
 induction k with
 | zero =>
  have := h.up (i + 1) (by omega) hj
  rw [show i + 1 - 1 = i by omega] at this
  exact (less_val (rt_pos (h.xr (by omega))) (rt_pos (h.xr hj))).1 this
 | succ k ih =>
  have h1 := ih (by omega) (by omega)
  have := h.up (i + 1 + (k + 1)) (by omega) hj
  rw [show i + 1 + (k + 1) - 1 = i + 1 + k by omega] at this
  have h2 := (less_val (rt_pos (h.xr (by omega))) (rt_pos (h.xr hj))).1 this
  grind
theorem LiftT.yle (h : LiftT n p) : ∀ {i j : Nat}, i ≤ j → j < n → val (p i).2 ≤ val (p j).2 := by
 intro i j hij hj
 obtain ⟨k, rfl⟩ : ∃ k, j = i + k := ⟨j - i, by omega⟩
 induction k with
 | zero => exact Rat.le_refl
 | succ k ih =>
  have h1 := ih (by omega) (by omega)
  have := h.mono (i + (k + 1)) (by omega) hj
  rw [show i + (k + 1) - 1 = i + k by omega] at this
  have h2 := (less_val_no (rt_pos (h.cur.yr hj)) (rt_pos (h.cur.yr (by omega)))).1 this
  exact Rat.le_trans h1 h2
structure OnP (p : Nat → Pt) (m : Nat) (x y : Rt) : Prop where
 lo : val (p m).1 ≤ val x
 hi : val x ≤ val (p (m + 1)).1
 eq : (val y - val (p m).2) * (val (p (m + 1)).1 - val (p m).1) = (val (p (m + 1)).2 - val (p m).2) * (val x - val (p m).1)
theorem onP_of (h : Curve n p) {x y : Rt} (hx : isUnit x = true) {j : Nat} (hj : AtJ n p x j) (hy : atQ n p x = some y) : j - 1 + 1 < n ∧ OnP p (j - 1) x y := by
 have hr : isRat x = true := by simp only [isUnit, Bool.and_eq_true] at hx; exact hx.1
 have hlt := hj.lt
 have hn := h.lo
 have hj1 : j - 1 + 1 < n := by omega
 refine ⟨hj1, ?_⟩
 have hu := (unit_val hr).1 hx
 have f0 : val (p 0).1 = 0 := by rw [h.fst]; show ((0 : Int) : Rat) / ((1 : Int) : Rat) = 0; grind
 have lo : val (p (j - 1)).1 ≤ val x := by
  by_cases h0 : j = 0
  ·subst h0; show val (p 0).1 ≤ val x; rw [f0]; exact hu.1
  ·have := (less_val (rt_pos (h.xr (show j - 1 < n by omega))) (rt_pos hr)).1 (hj.bef (j - 1) (by omega))
   grind
 have hi : val x ≤ val (p (j - 1 + 1)).1 := by
  have h1 := (less_val_no (rt_pos (h.xr hlt)) (rt_pos hr)).1 hj.at'
  by_cases h0 : j = 0
  ·subst h0
   have := h.xlt (i := 0) (j := 0 - 1 + 1) (by omega) hj1
   grind
  ·rw [show j - 1 + 1 = j by omega]; exact h1
 refine ⟨lo, hi, ?_⟩
 rw [atQ_eq hj] at hy
 obtain ⟨u, v, hs⟩ := h.piece hj1
 unfold onQ at hy
 obtain ⟨far, e1, hy⟩ := Option.bind_eq_some_iff.1 hy
 obtain ⟨up, e2, hy⟩ := Option.bind_eq_some_iff.1 hy
 have v1 := subQ_val hr (h.xr (show j - 1 < n by omega)) e1
 have v2 := mulQ_val hs.rs (subQ_rat e1) e2
 have v3 := addQ_val (h.yr (show j - 1 < n by omega)) (mulQ_rat e2) hy
 have v4 := subQ_val (h.yr hj1) (h.yr (show j - 1 < n by omega)) hs.up
 have v5 := subQ_val (h.xr hj1) (h.xr (show j - 1 < n by omega)) hs.far
 have v6 := divQ_val hs.ru hs.rv hs.vp hs.div
 rw [v4, v5] at v6
 rw [v3, v2, v1, ← v6]
 grind
theorem OnP.range (h : LiftT n p) {m : Nat} (hm : m + 1 < n) {x y : Rt} (hp : OnP p m x y) : val (p m).2 ≤ val y ∧ val y ≤ val (p (m + 1)).2 := by
 have hx := h.cur.xlt (show m < m + 1 by omega) hm
 have hy := h.yle (show m ≤ m + 1 by omega) hm
 obtain ⟨lo, hi, eq⟩ := hp
 have d : 0 < val (p (m + 1)).1 - val (p m).1 := by grind
 constructor
 ·refine Classical.byContradiction fun hno => ?_
  have h1 : val y - val (p m).2 < 0 := by grind
  have h2 := Rat.mul_lt_mul_of_pos_right h1 d
  have h3 := Rat.mul_nonneg (show 0 ≤ val (p (m + 1)).2 - val (p m).2 by grind) (show 0 ≤ val x - val (p m).1 by grind)
  grind
 ·refine Classical.byContradiction fun hno => ?_
  have h1 : val (p (m + 1)).2 - val (p m).2 < val y - val (p m).2 := by grind
  have h2 := Rat.mul_lt_mul_of_pos_right h1 d
  have h3 := Rat.mul_le_mul_of_nonneg_left (show val x - val (p m).1 ≤ val (p (m + 1)).1 - val (p m).1 by grind) (show 0 ≤ val (p (m + 1)).2 - val (p m).2 by grind)
  grind
theorem OnP.mono (h : LiftT n p) {m : Nat} (hm : m + 1 < n) {x y x' y' : Rt} (hp : OnP p m x y) (hp' : OnP p m x' y') (hx : val x ≤ val x') : val y ≤ val y' := by
 have d0 := h.cur.xlt (show m < m + 1 by omega) hm
 have hy := h.yle (show m ≤ m + 1 by omega) hm
 have e := hp.eq
 have e' := hp'.eq
 have d : 0 < val (p (m + 1)).1 - val (p m).1 := by grind
 refine Classical.byContradiction fun hno => ?_
 have h1 : val y' < val y := by grind
 have h2 := Rat.mul_lt_mul_of_pos_right h1 d
 have h3 := Rat.mul_le_mul_of_nonneg_left hx (show 0 ≤ val (p (m + 1)).2 - val (p m).2 by grind)
 grind
theorem at_mono (h : LiftT n p) {x y x' y' : Rt} (hx : isUnit x = true) (hx' : isUnit x' = true) (hy : atQ n p x = some y) (hy' : atQ n p x' = some y') (hle : val x ≤ val x') : val y ≤ val y' := by
 have hr : isRat x = true := by simp only [isUnit, Bool.and_eq_true] at hx; exact hx.1
 have hr' : isRat x' = true := by simp only [isUnit, Bool.and_eq_true] at hx'; exact hx'.1
 obtain ⟨j, hj⟩ := findJ h.cur hx
 obtain ⟨k, hk⟩ := findJ h.cur hx'
 obtain ⟨a1, a2⟩ := onP_of h.cur hx hj hy
 obtain ⟨b1, b2⟩ := onP_of h.cur hx' hk hy'
 rcases Nat.lt_trichotomy (j - 1) (k - 1) with hlt | heq | hgt
 ·have r1 := (a2.range h a1).2
  have r2 := (b2.range h b1).1
  have r3 := h.yle (show j - 1 + 1 ≤ k - 1 by omega) (by omega)
  grind
 ·rw [← heq] at b2
  exact a2.mono h a1 b2 hle
 ·-- the same place
  have c1 := b2.hi
  have c2 := a2.lo
  have c3 : val (p (k - 1 + 1)).1 ≤ val (p (j - 1)).1 := by
   by_cases he : k - 1 + 1 = j - 1
   ·rw [he]; exact Rat.le_refl
   ·have := h.cur.xlt (show k - 1 + 1 < j - 1 by omega) (by omega); grind
  have e : x = x' := val_inj hr hr' (by grind)
  subst e
  rw [hy] at hy'
  rw [Option.some.inj hy']
  exact Rat.le_refl
theorem at_range (h : LiftT n p) {x y : Rt} (hx : isUnit x = true) (hy : atQ n p x = some y) : val (p 0).2 ≤ val y ∧ val y ≤ val (p 0).2 + 1 := by
 obtain ⟨j, hj⟩ := findJ h.cur hx
 obtain ⟨a1, a2⟩ := onP_of h.cur hx hj hy
 have r := a2.range h a1
 have hn := h.cur.lo
 have r1 := h.yle (show 0 ≤ j - 1 by omega) (by omega)
 have r2 := h.yle (show j - 1 + 1 ≤ n - 1 by omega) (by omega)
 have hp := rt_pos (h.cur.yr (show 0 < n by omega))
 have e : val (p (n - 1)).2 = val (p 0).2 + 1 := by
  rw [h.lstY]
  have e1 := val_mul (r := (p 0).2) hp
  have e2 := val_mul (r := ((p 0).2.1 + (p 0).2.2, (p 0).2.2)) hp
  have n0 := ne0 hp
  simp only [Rat.intCast_add] at e2
  rw [← e1] at e2
  grind
 grind
theorem val_whole (k : Int) : val (k, 1) = (k : Rat) := by show (k : Rat) / ((1 : Int) : Rat) = (k : Rat); grind
theorem part_val {x : Rt} (hx : isRat x = true) : val (part x) = val x - (flr x : Rat) := by
 have hp := rt_pos hx
 have e1 := val_mul (r := x) hp
 have e2 : val (part x) * (x.2 : Rat) = ((x.1 - flr x * x.2 : Int) : Rat) := val_mul (r := part x) hp
 have n0 := ne0 hp
 rw [Rat.intCast_sub, Rat.intCast_mul, ← e1] at e2
 grind
theorem lift_mono (h : LiftT n p) {x y x' y' : Rt} (hx : near x = true) (hx' : near x' = true) (hy : liftQ n p x = some y) (hy' : liftQ n p x' = some y') (hle : val x ≤ val x') : val y ≤ val y' := by
 have hr := (near_rat hx).1
 have hr' := (near_rat hx').1
 have hk := flr_bd hx
 have hk' := flr_bd hx'
 obtain ⟨a, ha, hy⟩ := Option.bind_eq_some_iff.1 hy
 obtain ⟨b, hb, hy'⟩ := Option.bind_eq_some_iff.1 hy'
 have v1 := addQ_val (atQ_rat ha) (isRat_whole (k := flr x) (by omega) (by omega)) hy
 have v2 := addQ_val (atQ_rat hb) (isRat_whole (k := flr x') (by omega) (by omega)) hy'
 rw [val_whole] at v1 v2
 have u1 := part_unit (part_ok hr)
 have u2 := part_unit (part_ok hr')
 have p1 := part_val hr
 have p2 := part_val hr'
 have w1 := (unit_val (part_ok hr).rat).1 u1
 have w2 := (unit_val (part_ok hr').rat).1 u2
 -- the part is less than one
 have w3 : val (part x') < 1 := by
  have h1 := (part_ok hr').hi
  have hp := rt_pos (part_ok hr').rat
  have e := val_mul (r := part x') hp
  have e0 : (1 : Rat) * ((part x').2 : Rat) = ((part x').2 : Rat) := by grind
  have := (lt_iff (a := (part x').1) (b := (part x').2) (c := 1) (d := 1) (x := val (part x')) (y := 1) hp (by omega) e (by simp)).1 (by omega)
  exact this
 rcases Int.lt_trichotomy (flr x) (flr x') with hlt | heq | hgt
 ·have r1 := (at_range h u1 ha).2
  have r2 := (at_range h u2 hb).1
  have : ((flr x + 1 : Int) : Rat) ≤ ((flr x' : Int) : Rat) := by exact_mod_cast (show flr x + 1 ≤ flr x' by omega)
  rw [Rat.intCast_add] at this
  grind
 ·have := at_mono h u1 u2 ha hb (by rw [p1, p2, heq]; grind)
  rw [v1, v2, heq]
  grind
 ·exfalso
  have : ((flr x' + 1 : Int) : Rat) ≤ ((flr x : Int) : Rat) := by exact_mod_cast (show flr x' + 1 ≤ flr x by omega)
  rw [Rat.intCast_add] at this
  grind
theorem orb_mono (h : LiftT n p) {x x' : Rt} (hle : val x ≤ val x') : ∀ (k : Nat) {y y' : Rt}, orbQ n p x k = some y → orbQ n p x' k = some y' → val y ≤ val y'
 | 0, y, y', hy, hy' => by
  obtain rfl := Option.some.inj hy
  obtain rfl := Option.some.inj hy'
  exact hle
 | k + 1, y, y', hy, hy' => by
  obtain ⟨a, ha, hy⟩ := Option.bind_eq_some_iff.1 hy
  obtain ⟨b, hb, hy'⟩ := Option.bind_eq_some_iff.1 hy'
  split at hy
  ·rename_i na
   split at hy'
   ·rename_i nb
    exact lift_mono h na nb hy hy' (orb_mono h hle k ha hb)
   ·cases hy'
  ·cases hy
end
end Go.PV

/-
 Plain laws: lifts turned.
 Conditions: none.
-/
set_option linter.all false
namespace Go.PV
section
variable {n : Nat} {p : Nat → Pt} {y : Rt}
def tnO (p : Nat → Pt) (y : Rt) (i : Nat) : Option Rt := addQ (p i).2 y
def tnB (p : Nat → Pt) (y : Rt) (i : Nat) : Bool := (List.range i).any fun j => (tnO p y j).isNone
def tnP (p : Nat → Pt) (y : Rt) (i : Nat) : Pt := ((p i).1, (cK false (tnO p y i)).1)
theorem tnB_succ (i : Nat) : tnB p y (i + 1) = (tnB p y i || (tnO p y i).isNone) := by simp [tnB, List.range_succ]
theorem cK_fst (b : Bool) (o : Option Rt) : (cK b o).1 = (cK false o).1 ∧ (cK b o).2 = (b || o.isNone) := by cases o <;> simp [cK]
theorem impl_turn_loop (hp : ∀ i, i < n → isRat (p i).2 = true) (hy : isRat y = true) (hn : n ≤ 1048576) : loopO (impl_TurnLift_b1 (tab n p) y) (false, [], 0) = some (tnB p y n, tab n (tnP p y)) := by
 have hx := loop_idx (body := impl_TurnLift_b1 (tab n p) y) n (fun i => (tnB p y i, tab i (tnP p y), (i : Int))) (tnB p y n, tab n (tnP p y)) (fun i hi => by
  simp only [impl_TurnLift_b1, tab_len, show ((i : Int) < (n : Int)) from by omega, decide_true, if_true, idxO_tab hi, Option.bind_some, impl_add_eq _ (hp i hi) hy]
  rw [guardO_pos (by simp [tab_len]; omega)]
  have h := cK_fst (tnB p y i) (addQ (p i).2 y)
  rw [h.1, h.2, w64_nat (show i < 9223372036854775807 by omega), tnB_succ, ← tab_succ]
  rfl) (by
  simp only [impl_TurnLift_b1, tab_len, Int.lt_irrefl, decide_false, Bool.false_eq_true, if_false])
 exact hx
theorem spec_turn_loop (hp : ∀ i, i < n → isRat (p i).2 = true) (hy : isRat y = true) (hn : n ≤ 1048576) : loopO (spec_liTurn_b1 (tab n p) y) ([], 0) = some (if tnB p y n = true then .inl ([], false) else .inr (tab n (tnP p y))) := by
 have hmono : ∀ {i j : Nat}, i ≤ j → tnB p y i = true → tnB p y j = true := by
  intro i j hij h
  induction hij with
  | refl => exact h
  | step _ ih => rw [tnB_succ, ih]; rfl
 obtain ⟨z, h1, h2⟩ := loop_run (body := spec_liTurn_b1 (tab n p) y) (fun s => ∃ i : Nat, i ≤ n ∧ s = (tab i (tnP p y), (i : Int)) ∧ tnB p y i = false) (fun s => n - s.2.toNat) (fun z => z = (if tnB p y n = true then .inl ([], false) else .inr (tab n (tnP p y)))) (by
  rintro _ ⟨i, hi, rfl, hb⟩
  by_cases hlt : i < n
  ·simp only [spec_liTurn_b1, tab_len, show ((i : Int) < (n : Int)) from by omega, decide_true, if_true, idxO_tab hlt, Option.bind_some, spec_raAdd_eq (hp i hlt) hy]
   cases ho : addQ (p i).2 y with
   | none =>
    right
    have : tnB p y (i + 1) = true := by rw [tnB_succ]; simp [tnO, ho]
    refine ⟨.inl ([], false), by simp [unO], ?_⟩
    rw [if_pos (hmono (show i + 1 ≤ n by omega) this)]
   | some r =>
    left
    refine ⟨(tab (i + 1) (tnP p y), ((i + 1 : Nat) : Int)), ?_, ⟨i + 1, hlt, rfl, by rw [tnB_succ, hb]; simp [tnO, ho]⟩, by simp only; omega⟩
    simp only [unO, Bool.not_true, Bool.false_eq_true, if_false]
    rw [guardO_pos (by simp [tab_len]; omega), w64_nat (show i < 9223372036854775807 by omega), ← tab_succ]
    simp [tnP, tnO, ho, cK]
  ·have : i = n := by omega
   subst this
   exact .inr ⟨.inr (tab i (tnP p y)), by simp only [spec_liTurn_b1, tab_len, Int.lt_irrefl, decide_false, Bool.false_eq_true, if_false], by rw [hb]; simp⟩) ([], 0) ⟨0, by omega, rfl, rfl⟩
 rw [h1, h2]
end
theorem both_TurnLift (f : List Pt) (y : Rt) (hl : f.length ≤ 1048576) : ∃ r ok, r.length ≤ 1048576 ∧ spec_TurnLift f y = some (r, ok) ∧ impl_TurnLift f y = some (r, ok) := by
 obtain ⟨h1, h2⟩ := both_isLift f (by omega)
 unfold spec_TurnLift impl_TurnLift
 rw [h1, h2]
 cases hf : isLift f
 ·exact ⟨[], false, by simp, rfl, rfl⟩
 ·simp only [Option.bind_some, Bool.not_true, Bool.false_eq_true, if_false, impl_isFar_eq, spec_liNear_eq]
  cases hy : near y
  ·exact ⟨[], false, by simp, rfl, rfl⟩
  ·obtain ⟨n, p, rfl, hL⟩ := isLift_tab hf
   rw [tab_len] at hl
   have hp : ∀ i, i < n → isRat (p i).2 = true := fun i hi => (hL.cur.y i hi).1
   have hyr := (near_rat hy).1
   unfold spec_liTurn
   rw [impl_turn_loop hp hyr hl, spec_turn_loop hp hyr hl]
   simp only [Bool.not_true, Bool.false_eq_true, if_false, Option.bind_some]
   cases hb : tnB p y n
   ·obtain ⟨h3, h4⟩ := both_isLift (tab n (tnP p y)) (by rw [tab_len]; omega)
    simp only [Bool.false_eq_true, if_false, Sum.elim_inr, spec_liTurn_k1, impl_TurnLift_k1, spec_liIf, h3, h4, Option.bind_some]
    cases isLift (tab n (tnP p y))
    ·exact ⟨[], false, by simp, rfl, rfl⟩
    ·exact ⟨tab n (tnP p y), true, by rw [tab_len]; omega, rfl, rfl⟩
   ·exact ⟨[], false, by simp, rfl, rfl⟩
end Go.PV

/-
 Plain laws: characteristic polynomials.
 Conditions: none.
-/
set_option linter.all false
namespace Go.PV
def mulW (n : Nat) (A M : Nat → Nat → Int) (i j : Nat) : Int := foldN n (fun s l => w64 (s + w64 (A i l * M l j))) 0
def trW (n : Nat) (P : Nat → Nat → Int) : Int := foldN n (fun s i => w64 (s + P i i)) 0
def addD (M : Nat → Nat → Int) (c : Int) (i j : Nat) : Int := if i = j then w64 (M i j + c) else M i j
section
variable {n : Nat} {A : Nat → Nat → Int}
def chN (n : Nat) (A : Nat → Nat → Int) : Nat → (Nat → Int) × (Nat → Nat → Int)
 | 0 => (fun i => if i = n then 1 else 0, fun _ _ => 0)
 | k + 1 => (fun i => if i = n - (k + 1) then w64 (Int.tdiv (w64 (0 - trW n (mulW n A (addD (chN n A k).2 ((chN n A k).1 (n - k)))))) ((k + 1 : Nat) : Int)) else (chN n A k).1 i, mulW n A (addD (chN n A k).2 ((chN n A k).1 (n - k))))
end
def isPoly (c : List Int) : Bool := decide ((c.length : Int) ≤ 9) && (c.all (inB (-1000000) 1000000))
end Go.PV

/-
 Plain laws: lists turned round, ones.
 Conditions: none.
-/
set_option linter.all false
namespace Go.PV
section
variable {α : Type} [Inhabited α]
def revSt (xs : List α) (k : Nat) : List α := tab xs.length fun p => if p < k ∨ xs.length ≤ p + k then xs.getD (xs.length - 1 - p) default else xs.getD p default
end
theorem mul_1_0 : math_bits_Mul 1 0 = some (0, 0) := by kernel_rfl
theorem mul_1_1 : math_bits_Mul 1 1 = some (0, 1) := by kernel_rfl
theorem mul_1_2 : math_bits_Mul 1 2 = some (0, 2) := by kernel_rfl
theorem mul_1_3 : math_bits_Mul 1 3 = some (0, 3) := by kernel_rfl
theorem mul_1_4 : math_bits_Mul 1 4 = some (0, 4) := by kernel_rfl
theorem mul_1_5 : math_bits_Mul 1 5 = some (0, 5) := by kernel_rfl
theorem mul_1_6 : math_bits_Mul 1 6 = some (0, 6) := by kernel_rfl
theorem mul_1_7 : math_bits_Mul 1 7 = some (0, 7) := by kernel_rfl
theorem mul_1_8 : math_bits_Mul 1 8 = some (0, 8) := by kernel_rfl
theorem mul_one (n : Nat) (hn : n ≤ 8) : math_bits_Mul 1 (n : Int) = some (0, (n : Int)) := by
 match n, hn with
 | 0, _ => exact mul_1_0
 | 1, _ => exact mul_1_1
 | 2, _ => exact mul_1_2
 | 3, _ => exact mul_1_3
 | 4, _ => exact mul_1_4
 | 5, _ => exact mul_1_5
 | 6, _ => exact mul_1_6
 | 7, _ => exact mul_1_7
 | 8, _ => exact mul_1_8
 | n + 9, h => omega
def trimZ (c : List Int) : List Int := (c.reverse.dropWhile (· == 0)).reverse
end Go.PV

/-
 Plain laws: vectors of walks, bounds of growth.
 Conditions: none.
-/
set_option linter.all false
namespace Go.PV
def vk (G : Nat → Nat → Int) (n : Nat) : Nat → Nat → Int
 | 0 => fun _ => 1
 | k + 1 => fun j => dotN (G j) (vk G n k) n + vk G n k j
def mxg (G : Nat → Nat → Int) (n : Nat) : Nat → Nat
 | 0 => 0
 | k + 1 => if mxg G n k = k ∧ isVec (tab n (vk G n (k + 1))) = true then k + 1 else mxg G n k
section
variable {n : Nat} {G : Nat → Nat → Int}
def bestT (G : Nat → Nat → Int) (n : Nat) : (Int × Int) × (Int × Int) × Int × Bool := (mnN (ratN G (vk G n (mxg G n 20)) n) n, mxN (ratN G (vk G n (mxg G n 20)) n) n, ((mxg G n 20 : Nat) : Int), true)
end
end Go.PV

/-
 Plain law: the product of a graph and a vector.
 Conditions: none.
-/
set_option linter.all false
namespace Go.PV
end Go.PV

/-
 Plain law: more steps give bounds that are no worse.
 Conditions: none.
-/
set_option linter.all false
namespace Go.PV
section
variable {n : Nat} {G : Nat → Nat → Int}
def lbd (G : Nat → Nat → Int) (n : Nat) (p q : Int) (v : Nat → Int) : Prop := ∀ i, i < n → p * v i ≤ q * dotN (G i) v n
def ubd (G : Nat → Nat → Int) (n : Nat) (p q : Int) (v : Nat → Int) : Prop := ∀ i, i < n → q * dotN (G i) v n ≤ p * v i
theorem less_ge {a b c : Int × Int} (ha : 0 < a.2) (hb : 0 < b.2) (hc : 0 < c.2) (h1 : less a b = false) (h2 : less b c = false) : less a c = false := by
 rw [less_val_no ha hb] at h1
 rw [less_val_no hb hc] at h2
 rw [less_val_no ha hc]
 exact Rat.le_trans h2 h1
theorem rat_pos {a : Int × Int} (h : isRat a = true) : 0 < a.2 := by have := (isRat_iff.1 h).1; omega
theorem mn_all {r : Nat → Int × Int} : ∀ k, (∀ i, i < k → isRat (r i) = true) → isRat (r 0) = true → ∀ i, i < k → less (r i) (mnN r k) = false ∧ less (mxN r k) (r i) = false
 | 0, _, _, i, hi => by omega
 | k + 1, h, h0, i, hi => by
  have hk := mn_rat h0 (fun i hi => h i hi) k (by omega)
  have hk' := mn_rat h0 (fun i hi => h i hi) (k + 1) (by omega)
  have hm : less (mnN r k) (mnN r (k + 1)) = false ∧ less (r k) (mnN r (k + 1)) = false := by
   rw [mnN_succ]; unfold minStep
   split
   ·rename_i hl; exact ⟨less_not hl, less_self _⟩
   ·rename_i hl; exact ⟨less_self _, by simpa using hl⟩
  have hx : less (mxN r (k + 1)) (mxN r k) = false ∧ less (mxN r (k + 1)) (r k) = false := by
   rw [mxN_succ]; unfold maxStep
   split
   ·rename_i hl; exact ⟨less_not hl, less_self _⟩
   ·rename_i hl; exact ⟨less_self _, by simpa using hl⟩
  by_cases hik : i = k
  ·subst hik; exact ⟨hm.2, hx.2⟩
  ·have ih := mn_all k (fun i hi => h i (by omega)) h0 i (by omega)
   have hi' := rat_pos (h i hi)
   exact ⟨less_ge hi' (rat_pos hk.1) (rat_pos hk'.1) ih.1 hm.1, less_ge (rat_pos hk'.2) (rat_pos hk.2) hi' hx.1 ih.2⟩
theorem mn_some {r : Nat → Int × Int} : ∀ k, 0 < k → (∃ i, i < k ∧ mnN r k = r i) ∧ ∃ i, i < k ∧ mxN r k = r i
 | 0, h => by omega
 | 1, _ => ⟨⟨0, by omega, mnN_one r⟩, ⟨0, by omega, mxN_one r⟩⟩
 | k + 2, _ => by
  obtain ⟨⟨i, hi, e1⟩, ⟨j, hj, e2⟩⟩ := mn_some (r := r) (k + 1) (by omega)
  rw [mnN_succ, mxN_succ]
  unfold minStep maxStep
  constructor
  ·split
   ·exact ⟨k + 1, by omega, rfl⟩
   ·exact ⟨i, by omega, e1⟩
  ·split
   ·exact ⟨k + 1, by omega, rfl⟩
   ·exact ⟨j, by omega, e2⟩
section
variable {v : Nat → Int}
end
end
end Go.PV

/-
 Plain laws: what draws from bytes always comes to an end.
 Conditions: none.
-/
set_option linter.all false
namespace Go.PV
def Tot {α : Type} (o : Option α) (P : α → Prop) : Prop := ∃ r, o = some r ∧ P r
section
variable {α β : Type} {P : α → Prop} {Q : β → Prop}
theorem Tot.bind {o : Option α} {f : α → Option β} (h : Tot o P) (k : ∀ r, P r → Tot (f r) Q) : Tot (o.bind f) Q := by
 obtain ⟨r, rfl, hr⟩ := h
 exact k r hr
theorem Tot.mono {P' : α → Prop} {o : Option α} (h : Tot o P) (k : ∀ r, P r → P' r) : Tot o P' := by
 obtain ⟨r, h, hr⟩ := h
 exact ⟨r, h, k r hr⟩
theorem Tot.ret {r : α} (h : P r) : Tot (some r) P := ⟨r, rfl, h⟩
theorem Tot.ite {c : Bool} {x y : Option α} (h1 : c = true → Tot x P) (h2 : c = false → Tot y P) : Tot (if c = true then x else y) P := by
 cases c
 ·exact h2 rfl
 ·exact h1 rfl
theorem Tot.guard {p : Prop} [Decidable p] {f : Unit → Option α} (h : p) (k : Tot (f ()) P) : Tot ((guardO p).bind f) P := by
 rw [guardO_bind_pos h]; exact k
def Lp {X Y : Type} (I : X → Prop) (R : Y → Prop) : X ⊕ Y → Prop
 | .inl x => I x
 | .inr y => R y
theorem Tot.inl {X Y : Type} {I : X → Prop} {R : Y → Prop} {x : X} (h : I x) : Tot (some (Sum.inl x)) (Lp I R) := ⟨_, rfl, h⟩
theorem Tot.inr {X Y : Type} {I : X → Prop} {R : Y → Prop} {y : Y} (h : R y) : Tot (some (Sum.inr y)) (Lp I R) := ⟨_, rfl, h⟩
theorem Tot.loop {X Y : Type} {body : X → Option (X ⊕ Y)} {R : Y → Prop} (Inv : X → Prop) (μ : X → Nat)
  (h : ∀ x, Inv x → Tot (body x) (Lp (fun x' => Inv x' ∧ μ x' < μ x) R)) (x0 : X) (h0 : Inv x0) : Tot (loopO body x0) R := by
 obtain ⟨y, h1, h2⟩ := loop_run (body := body) Inv μ R (fun x hx => by
  obtain ⟨r, e, hr⟩ := h x hx
  cases r with
  | inl x' => exact .inl ⟨x', e, hr.1, hr.2⟩
  | inr y => exact .inr ⟨y, e, hr⟩) x0 h0
 exact ⟨y, h1, h2⟩
end
theorem Tot.idx {α β : Type} {xs : List α} {i : Int} {f : α → Option β} {Q : β → Prop} (h0 : 0 ≤ i) (h1 : i < xs.length) (k : ∀ x, x ∈ xs → Tot (f x) Q) : Tot ((idxO xs i).bind f) Q := by
 obtain ⟨m, rfl⟩ := Int.eq_ofNat_of_zero_le h0
 have hm : m < xs.length := by omega
 rw [idxO_lt hm, Option.bind_some]
 exact k _ (List.getElem_mem hm)
abbrev Cur := List Int × Int × Int
def Bytes (l : List Int) : Prop := l.length ≤ 9223372036854775807 ∧ ∀ b ∈ l, 0 ≤ b ∧ b ≤ 255
def Ck (B : Nat) (c : Cur) : Prop := Bytes c.1 ∧ 0 ≤ c.2.1 ∧ c.2.1 ≤ B
theorem Ck.mono {B B' : Nat} {c : Cur} (h : Ck B c) (hb : B ≤ B') : Ck B' c := ⟨h.1, h.2.1, by have := h.2.2; omega⟩
theorem ck0 {l : List Int} (h : Bytes l) : Ck 0 (l, 0, 0) := ⟨h, by simp, by simp⟩
theorem wrapU64 (n : Int) : IntKind.u64.wrap n = n % 18446744073709551616 := by simp [IntKind.wrap, IntKind.bits, IntKind.signed]
theorem wrap_i64 (n : Int) : IntKind.wrap .i64 n = w64 n := rfl
theorem iand_255 (x : Int) : 0 ≤ iand .u64 x 255 ∧ iand .u64 x 255 ≤ 255 := by
 unfold iand
 have h : ((BitVec.ofInt (IntKind.bits .u64) x) &&& (BitVec.ofInt (IntKind.bits .u64) 255)).toNat ≤ 255 := by
  rw [BitVec.toNat_and]
  have : (BitVec.ofInt (IntKind.bits .u64) 255).toNat = 255 := by decide
  rw [this]
  exact Nat.and_le_right
 rw [wrapU64, Int.emod_eq_of_lt (by omega) (by omega)]
 omega
theorem next_ok {B : Nat} {c : Cur} (h : Ck B c) (hB : B ≤ 1152921504606846976) : Tot (spec_l1Cur_next c) fun r => (0 ≤ r.1 ∧ r.1 ≤ 255) ∧ Ck (B + 1) r.2 := by
 obtain ⟨⟨hl, hb⟩, h0, h1⟩ := h
 have hw : w64 (c.2.1 + 1) = c.2.1 + 1 := w64_id (by omega) (by omega)
 have key : ∀ x : Int, 0 ≤ x → x ≤ 255 → Tot (spec_l1Cur_next_k1 c x) fun r => (0 ≤ r.1 ∧ r.1 ≤ 255) ∧ Ck (B + 1) r.2 := by
  intro x hx0 hx1
  unfold spec_l1Cur_next_k1
  rw [hw]
  refine Tot.ite (fun _ => Tot.ret ⟨⟨hx0, hx1⟩, ⟨hl, hb⟩, by show 0 ≤ c.2.1 + 1; omega, by show c.2.1 + 1 ≤ _; omega⟩) (fun _ => Tot.ret ⟨?_, ⟨hl, hb⟩, by show 0 ≤ c.2.1 + 1; omega, by show c.2.1 + 1 ≤ _; omega⟩)
  rw [wrap_i64]
  obtain ⟨a, b⟩ := iand_255 (ishr .u64 (IntKind.wrap .u64 ((IntKind.wrap .u64 ((IntKind.wrap .u64 (c.2.2 * 6364136223846793005)) + (IntKind.wrap .u64 x))) + 1442695040888963407)) 40)
  show 0 ≤ w64 _ ∧ w64 _ ≤ 255
  rw [w64_id (by omega) (by omega)]
  exact ⟨a, b⟩
 unfold spec_l1Cur_next
 refine Tot.ite (fun hc => ?_) (fun _ => key 0 (by omega) (by omega))
 have hlt : c.2.1 < (c.1.length : Int) := of_decide_eq_true hc
 refine Tot.idx h0 hlt fun x hx => ?_
 have := hb x hx
 rw [wrap_i64, w64_id (by omega) (by omega)]
 exact key x this.1 this.2
theorem tmod_rng {x n : Int} (hx : 0 ≤ x) (hn : 1 ≤ n) : 0 ≤ Int.tmod x n ∧ Int.tmod x n < n := by
 obtain ⟨a, rfl⟩ := Int.eq_ofNat_of_zero_le hx
 obtain ⟨b, rfl⟩ := Int.eq_ofNat_of_zero_le (show 0 ≤ n by omega)
 have : Int.tmod (a : Int) (b : Int) = ((a % b : Nat) : Int) := rfl
 rw [this]
 have := Nat.mod_lt a (show b > 0 by omega)
 omega
theorem pick_ok {B : Nat} {c : Cur} (h : Ck B c) (hB : B ≤ 1000000000000000000) (n : Int) : Tot (spec_l1Cur_pick c n) fun r => (0 ≤ r.1 ∧ (1 ≤ n → r.1 < n)) ∧ Ck (B + 2) r.2 := by
 unfold spec_l1Cur_pick
 refine Tot.ite (fun hc => Tot.ret ⟨⟨by show (0 : Int) ≤ 0; omega, fun h => by show (0 : Int) < n; omega⟩, h.mono (by omega)⟩) (fun hc => ?_)
 have hn : ¬ n ≤ 1 := of_decide_eq_false hc
 refine (next_ok h (by omega)).bind fun v2 ⟨⟨h1, h2⟩, h3⟩ => ?_
 refine Tot.ite (fun _ => ?_) (fun _ => ?_)
 ·refine (next_ok h3 (by omega)).bind fun v6 ⟨⟨h4, h5⟩, h6⟩ => ?_
  unfold spec_l1Cur_pick_k1
  refine Tot.guard (by omega) (Tot.ret ?_)
  have e : w64 ((w64 (v2.1 * 256)) + v6.1) = v2.1 * 256 + v6.1 := by rw [w64_id (n := v2.1 * 256) (by omega) (by omega), w64_id (by omega) (by omega)]
  have := tmod_rng (x := v2.1 * 256 + v6.1) (n := n) (by omega) (by omega)
  simp only [e]
  exact ⟨⟨this.1, fun _ => this.2⟩, h6⟩
 ·unfold spec_l1Cur_pick_k1
  refine Tot.guard (by omega) (Tot.ret ?_)
  have := tmod_rng (x := v2.1) (n := n) (by omega) (by omega)
  exact ⟨⟨this.1, fun _ => this.2⟩, h3.mono (by omega)⟩
theorem one_ok {B : Nat} {c : Cur} (h : Ck B c) (hB : B ≤ 1000000000000000000) (n : Int) : Tot (spec_l1Cur_one c n) fun r => Ck (B + 2) r.2 := by
 unfold spec_l1Cur_one
 exact (pick_ok h hB n).bind fun v h => Tot.ret h.2
theorem among_ok {B : Nat} {c : Cur} (h : Ck B c) (hB : B ≤ 1000000000000000000) (l : List Int) (hl : l ≠ []) : Tot (spec_l1Cur_among c l) fun r => r.1 ∈ l ∧ Ck (B + 2) r.2 := by
 unfold spec_l1Cur_among
 refine (pick_ok h hB _).bind fun v ⟨⟨h1, h2⟩, h3⟩ => ?_
 have : 0 < l.length := List.length_pos_iff.2 hl
 refine Tot.idx h1 (h2 (by omega)) fun x hx => Tot.ret ⟨hx, h3⟩
end Go.PV
namespace Go.PV
def cur4 {α : Type} (x : List Int × Int × Int × α) : Cur := (x.1, x.2.1, x.2.2.1)
def En (l : List Int) : Prop := ∀ x ∈ l, 0 ≤ x ∧ x ≤ 9
theorem En.set {l : List Int} {i : Nat} {x : Int} (h : En l) (h0 : 0 ≤ x) (h9 : x ≤ 9) : En (l.set i x) := fun y hy => by
 rcases List.mem_or_eq_of_mem_set hy with h' | rfl
 ·exact h y h'
 ·exact ⟨h0, h9⟩
def Sq (n : Int) (g : List (List Int)) : Prop := (g.length : Int) = n ∧ ∀ row ∈ g, (row.length : Int) = n ∧ En row
theorem mem_set {α : Type} {xs : List α} {i : Nat} {a x : α} (h : x ∈ xs.set i a) : x ∈ xs ∨ x = a := List.mem_or_eq_of_mem_set h
theorem Sq.set {n : Int} {g : List (List Int)} (h : Sq n g) {i : Nat} {row : List Int} (hr : (row.length : Int) = n ∧ En row) : Sq n (g.set i row) := ⟨by rw [List.length_set]; exact h.1, fun r hr' => by
 rcases mem_set hr' with h' | rfl
 ·exact h.2 r h'
 ·exact hr⟩
def Sm (g : List (List Int)) : Prop := g.length ≤ 9 ∧ ∀ row ∈ g, row.length ≤ 9
theorem Sm.sized {g : List (List Int)} (h : Sm g) : sized g := ⟨by have := h.1; omega, fun row hr => by have := h.2 row hr; omega⟩
end Go.PV

/-
 Plain laws: what draws fractions and vectors always comes to an end.
 Conditions: none.
-/
set_option linter.all false
namespace Go.PV
theorem rat_ok {B : Nat} (hB : B ≤ 100000000) {c : Cur} (hc : Ck B c) : Tot (spec_l1Cur_rat c) fun r => isRat r.1 = true ∧ Ck (B + 12) r.2 := by
 unfold spec_l1Cur_rat
 refine (pick_ok hc (by omega) _).bind fun v1 ⟨⟨a1, a2⟩, h1⟩ => ?_
 refine (pick_ok h1 (by omega) _).bind fun v2 ⟨⟨b1, b2⟩, h2⟩ => ?_
 refine (among_ok h2 (by omega) _ (by simp)).bind fun v3 ⟨m3, h3⟩ => ?_
 refine (pick_ok h3 (by omega) _).bind fun v4 ⟨⟨d1, d2⟩, h4⟩ => ?_
 refine (pick_ok h4 (by omega) _).bind fun v5 ⟨⟨e1, e2⟩, h5⟩ => ?_
 refine (among_ok h5 (by omega) _ (by simp)).bind fun v6 ⟨m6, h6⟩ => ?_
 have a3 := a2 (by omega); have b3 := b2 (by omega); have d3 := d2 (by omega); have e3 := e2 (by omega)
 rw [w64_id (by omega) (by omega), w64_id (by omega) (by omega)] at m3 m6
 simp only [List.mem_cons, List.not_mem_nil, or_false] at m3 m6
 rw [spec_raMake_gen v3.1 v6.1 (by omega) (by omega) (by omega) (by omega) (by omega), Option.bind_some]
 unfold spec_raInt
 cases hq : lowQ v3.1 v6.1 with
 | none => exact Tot.ret ⟨isRat_one, h6⟩
 | some q => exact Tot.ret ⟨lowQ_rat hq, h6⟩
theorem anyRat_ok {B : Nat} (hB : B ≤ 100000000) {c : Cur} (hc : Ck B c) : Tot (spec_l1Cur_anyRat c) fun r => Ck (B + 18) r.2 := by
 unfold spec_l1Cur_anyRat
 refine (rat_ok hB hc).bind fun v1 ⟨_, h1⟩ => ?_
 refine (pick_ok h1 (by omega) _).bind fun v2 ⟨_, h2⟩ => ?_
 refine Tot.ite (fun _ => ?_) (fun _ => Tot.ite (fun _ => ?_) (fun _ => Tot.ite (fun _ => ?_) (fun _ => Tot.ret (h2.mono (by omega)))))
 ·exact (among_ok h2 (by omega) _ (by simp)).bind fun v ⟨_, h⟩ => Tot.ret (h.mono (by omega))
 ·exact (among_ok h2 (by omega) _ (by simp)).bind fun v ⟨_, h⟩ => Tot.ret (h.mono (by omega))
 ·exact (among_ok h2 (by omega) _ (by simp)).bind fun v ⟨_, h⟩ => (among_ok h (by omega) _ (by simp)).bind fun w ⟨_, h'⟩ => Tot.ret (h'.mono (by omega))
end Go.PV

/-
 Plain law: growth of drawn graphs.
 Conditions: none.
-/
set_option linter.all false
namespace Go.PV
theorem laws_qUp_eq {a b : Int × Int} (ha : tame a) (hb : tame b) : laws_qUp a b = some (cmp a b) := by
 obtain ⟨a1, a2, a3, a4⟩ := ha
 obtain ⟨b1, b2, b3, b4⟩ := hb
 have m1 := mul_le_9 a1 a2 b3 b4
 have m2 := mul_le_9 b1 b2 a3 a4
 unfold laws_qUp cmp
 rw [w64_id (n := a.1 * b.2) (by omega) (by omega), w64_id (n := b.1 * a.2) (by omega) (by omega), w64_id (by omega) (by omega)]
 by_cases h : a.1 * b.2 < b.1 * a.2
 ·rw [if_pos (decide_eq_true (by omega)), if_pos h]
 ·rw [if_neg (by simp; omega), if_neg h]
  by_cases h2 : a.1 * b.2 > b.1 * a.2
  ·rw [if_pos (decide_eq_true (by omega)), if_pos h2]
  ·rw [if_neg (by simp; omega), if_neg h2]
section
variable {n : Nat} {G : Nat → Nat → Int} {v : Nat → Int}
end
end Go.PV

/-
 Plain laws: what draws lifts always comes to an end.
 Conditions: none.
-/
set_option linter.all false
namespace Go.PV
def Gr (r : Rt) : Prop := isRat r = true ∧ 0 ≤ r.1 ∧ r.1 ≤ 100 ∧ 1 ≤ r.2 ∧ r.2 ≤ 100
theorem make_grid {v a : Int} (h0 : 0 ≤ v) (h1 : v ≤ a) (a1 : 1 ≤ a) (a2 : a ≤ 100) : Tot (spec_raMake v a) fun r => Gr r.1 := by
 obtain ⟨r, h⟩ := lowQ_some_nonneg (n := v) (d := a) h0 (by omega) a1 (by omega)
 rw [spec_raMake_gen v a (by omega) (by omega) (by omega) (by omega) (by omega), h.eq]
 have := h.num
 have := h.den
 have h2 : 0 ≤ r.1 := by
  by_cases hv : v = 0
  ·rw [h.zer hv]; omega
  ·have := h.pos (by omega); omega
 exact Tot.ret ⟨h.rat, h2, by show r.1 ≤ 100; omega, by show 1 ≤ r.2; omega, by show r.2 ≤ 100; omega⟩
theorem gridRat_ok {B : Nat} (hB : B ≤ 100000000) {c : Cur} (hc : Ck B c) {a : Int} (a1 : 1 ≤ a) (a2 : a ≤ 100) : Tot (spec_l1Cur_gridRat c a) fun r => Gr r.1 ∧ Ck (B + 2) r.2 := by
 unfold spec_l1Cur_gridRat
 rw [w64_id (by omega) (by omega)]
 refine (pick_ok hc (by omega) _).bind fun v1 ⟨⟨b1, b2⟩, h1⟩ => ?_
 have := b2 (by omega)
 exact (make_grid b1 (by omega) a1 a2).bind fun v2 h2 => Tot.ret ⟨h2, h1⟩
theorem raCmp_tot (a b : Rt) : ∃ r, spec_raCmp a b = some r := by
 unfold spec_raCmp spec_l1Sign
 by_cases h1 : w64 (w64 (a.1 * b.2) - w64 (b.1 * a.2)) > 0
 ·simp [h1]
 ·by_cases h2 : w64 (w64 (a.1 * b.2) - w64 (b.1 * a.2)) < 0 <;> simp [h1, h2]
theorem imPut_ok (xs : List Rt) (x : Rt) (hl : xs.length ≤ 1048576) : Tot (spec_imPut xs x) fun r => xs.length ≤ r.length ∧ r.length ≤ xs.length + 1 := by
 unfold spec_imPut
 refine Tot.bind (P := fun y : Int => 0 ≤ y ∧ y ≤ xs.length) ?_ fun y ⟨y0, y1⟩ => ?_
 ·refine Tot.loop (fun x => 0 ≤ x ∧ x ≤ (xs.length : Int)) (fun x => ((xs.length : Int) - x).toNat) (fun i ⟨i0, i1⟩ => ?_) _ ⟨by decide, by omega⟩
  unfold spec_imPut_b1
  refine Tot.bind (P := fun b => b = true → i < (xs.length : Int)) ?_ fun b hb => ?_
  ·refine Tot.ite (fun hi => ?_) (fun _ => Tot.ret fun h => by cases h)
   have hi' : i < (xs.length : Int) := of_decide_eq_true hi
   refine Tot.idx i0 hi' fun v _ => ?_
   obtain ⟨r, hr⟩ := raCmp_tot v x
   rw [hr, Option.bind_some]
   exact Tot.ret fun _ => hi'
  ·refine Tot.ite (fun h => ?_) (fun _ => Tot.inr ⟨i0, i1⟩)
   have := hb h
   have hw : w64 (i + 1) = i + 1 := w64_id (by omega) (by omega)
   rw [hw]
   exact Tot.inl ⟨⟨by omega, by omega⟩, by omega⟩
 ·unfold spec_imPut_k1
  refine Tot.bind (P := fun _ => True) ?_ fun b _ => ?_
  ·exact Tot.ite (fun hi => Tot.idx y0 (of_decide_eq_true hi) fun v _ => Tot.ret trivial) (fun _ => Tot.ret trivial)
  ·refine Tot.ite (fun _ => Tot.ret ⟨Nat.le_refl _, by omega⟩) (fun _ => ?_)
   refine Tot.guard ⟨y0, y1⟩ (Tot.guard (by simp; omega) (Tot.guard (by simp; omega) (Tot.guard (by simp; omega) (Tot.ret ⟨by simp; omega, by simp; omega⟩))))
def Gm (r : Rt) : Prop := -1000 ≤ r.1 ∧ r.1 ≤ 1000 ∧ 1 ≤ r.2 ∧ r.2 ≤ 100
theorem Gr.gm {r : Rt} (h : Gr r) : Gm r := ⟨by have := h.2.1; omega, by have := h.2.2.1; omega, h.2.2.2.1, h.2.2.2.2⟩
theorem liPlus_gm {r : Rt} (h : Gr r) {k : Int} (k0 : -9 ≤ k) (k1 : k ≤ 9) : Tot (spec_liPlus r k) fun y => Gm y := by
 obtain ⟨_, h1, h2, h3, h4⟩ := h
 have m1 : k * r.2 ≤ 9 * r.2 := Int.mul_le_mul_of_nonneg_right k1 (by omega)
 have m2 : -9 * r.2 ≤ k * r.2 := Int.mul_le_mul_of_nonneg_right k0 (by omega)
 unfold spec_liPlus
 rw [w64_id (n := k * r.2) (by omega) (by omega), w64_id (by omega) (by omega)]
 exact Tot.ret ⟨by show -1000 ≤ r.1 + k * r.2; omega, by show r.1 + k * r.2 ≤ 1000; omega, h3, h4⟩
theorem liPlus_tot (r : Rt) (k : Int) : Tot (spec_liPlus r k) fun _ => True := ⟨_, rfl, trivial⟩
theorem raAdd_tot {a b : Rt} (ha : Gm a) (hb : Gr b) : Tot (spec_raAdd a b) fun _ => True := by
 obtain ⟨a1, a2, a3, a4⟩ := ha
 obtain ⟨_, b1, b2, b3, b4⟩ := hb
 have m1 := mul_bd (a := a.1) (b := b.2) (A := 1000) (B := 100) a1 a2 (by omega) b4 (by omega) (by omega)
 have m2 := mul_bd (a := b.1) (b := a.2) (A := 100) (B := 100) (by omega) b2 (by omega) a4 (by omega) (by omega)
 have m3 := mul_bd (a := a.2) (b := b.2) (A := 100) (B := 100) (by omega) a4 (by omega) b4 (by omega) (by omega)
 have m4 : 0 < a.2 * b.2 := Int.mul_pos (by omega) (by omega)
 unfold spec_raAdd
 rw [w64_id (n := a.1 * b.2) (by omega) (by omega), w64_id (n := b.1 * a.2) (by omega) (by omega), w64_id (n := a.2 * b.2) (by omega) (by omega), w64_id (by omega) (by omega), spec_raMake_gen _ _ (by omega) (by omega) (by omega) (by omega) (by omega)]
 exact Tot.ret trivial
theorem liftGrid_ok {B : Nat} (hB : B ≤ 1000000) {c : Cur} (hc : Ck B c) {a : Int} (a1 : 1 ≤ a) (a2 : a ≤ 100) : Tot (spec_l1Cur_liftGrid c a) fun r => (2 ≤ r.1.length ∧ r.1.length ≤ 12) ∧ Ck (B + 300) r.2 := by
 have k4 : ∀ (x5 : List Int × Int × Int × List Rt) (x7 : List Int × Int × Int × Int × Int) (x8 : List Int × Int × Int × List Int), 2 ≤ x5.2.2.2.length → x5.2.2.2.length ≤ 12 → Gm x7.2.2.2 → x5.2.2.2.length ≤ x8.2.2.2.length + 1 → (∀ u ∈ x8.2.2.2, 0 ≤ u ∧ u ≤ a) → Ck (B + 300) (cur4 x8) →
   Tot (spec_l1Cur_liftGrid_k4 a x5 x7 x8) fun r => (2 ≤ r.1.length ∧ r.1.length ≤ 12) ∧ Ck (B + 300) r.2 := by
  intro x5 x7 x8 l2 l12 hg hl hu hc
  unfold spec_l1Cur_liftGrid_k4 spec_l1Cur_liftGrid_k5
  refine Tot.bind (P := fun y : List Pt => y.length = x5.2.2.2.length) ?_ fun y hy => Tot.ret ⟨⟨by show 2 ≤ y.length; omega, by show y.length ≤ 12; omega⟩, hc⟩
  refine Tot.loop (fun x => (x.1.length : Int) = x.2 ∧ x.2 ≤ (x5.2.2.2.length : Int)) (fun x => ((x5.2.2.2.length : Int) - x.2).toNat) (fun x ⟨xl, xh⟩ => ?_) _ ⟨by decide, by show (0 : Int) ≤ _; omega⟩
  obtain ⟨out, i⟩ := x
  simp only at xl xh
  have k6 : ∀ v13 x14 : Rt, i < (x5.2.2.2.length : Int) → Tot (spec_l1Cur_liftGrid_k6 (out, i) v13 x14) (Lp (fun x' : List Pt × Int => ((x'.1.length : Int) = x'.2 ∧ x'.2 ≤ (x5.2.2.2.length : Int)) ∧ ((x5.2.2.2.length : Int) - x'.2).toNat < ((x5.2.2.2.length : Int) - i).toNat) (fun y : List Pt => y.length = x5.2.2.2.length)) := by
   intro v13 x14 hi
   unfold spec_l1Cur_liftGrid_k6
   have hw : w64 (i + 1) = i + 1 := w64_id (by omega) (by omega)
   simp only [hw]
   exact Tot.guard (by simp; omega) (Tot.inl ⟨⟨by simp; omega, by show i + 1 ≤ _; omega⟩, by show (_ - (i + 1)).toNat < _; omega⟩)
  unfold spec_l1Cur_liftGrid_b1
  refine Tot.ite (fun hi => ?_) (fun hi => Tot.inr ?_)
  ·have hi' : i < (x5.2.2.2.length : Int) := of_decide_eq_true hi
   refine Tot.idx (by omega) hi' fun v13 _ => ?_
   have hw : w64 (i + 1) = i + 1 := w64_id (by omega) (by omega)
   simp only [hw]
   refine Tot.ite (fun _ => (liPlus_tot _ _).bind fun v17 _ => k6 _ _ hi') (fun hne => Tot.ite (fun hpos => ?_) (fun _ => k6 _ _ hi'))
   have hne' : ¬ i + 1 = (x5.2.2.2.length : Int) := by simpa using hne
   refine Tot.idx (by omega) (by omega) fun v19 hv19 => ?_
   have := hu v19 hv19
   refine (make_grid this.1 this.2 a1 a2).bind fun v20 h20 => ?_
   exact (raAdd_tot hg h20).bind fun v21 _ => k6 _ _ hi'
  ·have hi' : ¬ i < (x5.2.2.2.length : Int) := of_decide_eq_false hi
   show out.length = _
   omega
 have k3 : ∀ (B' : Nat) (x5 : List Int × Int × Int × List Rt) (x7 : List Int × Int × Int × Int × Int), B' + 30 ≤ B + 300 → 2 ≤ x5.2.2.2.length → x5.2.2.2.length ≤ 12 → Gm x7.2.2.2 → Ck B' (x7.1, x7.2.1, x7.2.2.1) →
   Tot (spec_l1Cur_liftGrid_k3 a x5 x7) fun r => (2 ≤ r.1.length ∧ r.1.length ≤ 12) ∧ Ck (B + 300) r.2 := by
  intro B' x5 x7 hB' l2 l12 hg hc
  unfold spec_l1Cur_liftGrid_k3
  refine Tot.bind (P := fun y : List Int × Int × Int × List Int => x5.2.2.2.length ≤ y.2.2.2.length + 1 ∧ (∀ u ∈ y.2.2.2, 0 ≤ u ∧ u ≤ a) ∧ Ck (B' + 30) (cur4 y)) ?_ fun y ⟨h1, h2, h3⟩ => k4 x5 x7 y l2 l12 hg h1 h2 (h3.mono hB')
  refine Tot.loop (fun x => (1 ≤ x.2.2.2.length ∧ x.2.2.2.length ≤ 11) ∧ (∀ u ∈ x.2.2.2, 0 ≤ u ∧ u ≤ a) ∧ Ck (B' + 2 * x.2.2.2.length) (cur4 x)) (fun x => 12 - x.2.2.2.length) (fun x ⟨⟨xl, xh⟩, xu, xc⟩ => ?_) _ ⟨⟨by simp, by simp⟩, fun u hu => by simp at hu; omega, Ck.mono (c := (x7.1, x7.2.1, x7.2.2.1)) hc (by omega)⟩
  obtain ⟨c1, c2, c3, l⟩ := x
  simp only [cur4] at xl xh xu xc ⊢
  unfold spec_l1Cur_liftGrid_b2
  rw [w64_id (n := (x5.2.2.2.length : Int) - 1) (by omega) (by omega)]
  refine Tot.ite (fun hk => ?_) (fun hk => Tot.inr ⟨?_, xu, xc.mono (by omega)⟩)
  ·have hk' : (l.length : Int) < (x5.2.2.2.length : Int) - 1 := of_decide_eq_true hk
   have ew : w64 ((l.length : Int) - 1) = (l.length : Int) - 1 := w64_id (by omega) (by omega)
   simp only [ew]
   refine Tot.idx (by omega) (by omega) fun v25 hv25 => ?_
   rw [w64_id (n := a + 1) (by omega) (by omega)]
   refine (pick_ok xc (by omega) _).bind fun v26 ⟨⟨p1, p2⟩, h26⟩ => ?_
   have p3 := p2 (by omega)
   have q := xu v25 hv25
   refine Tot.bind (P := fun z : Int => 0 ≤ z ∧ z ≤ a) ?_ fun z hz => ?_
   ·unfold spec_l1Most
    exact Tot.ite (fun _ => Tot.ret q) (fun _ => Tot.ret ⟨p1, by omega⟩)
   ·refine Tot.guard (by simp; omega) (Tot.inl ⟨⟨⟨by simp, by simp; omega⟩, fun u hu => ?_, Ck.mono (c := v26.2) h26 (by simp; omega)⟩, by simp; omega⟩)
    rcases List.mem_append.1 hu with h' | h'
    ·exact xu u h'
    ·rw [List.mem_singleton.1 h']; exact hz
  ·have hk' : ¬ (l.length : Int) < (x5.2.2.2.length : Int) - 1 := of_decide_eq_false hk
   show x5.2.2.2.length ≤ l.length + 1
   omega
 have k1 : ∀ (B' : Nat) (x2 : List Int × Int × Int × Int), B' + 250 ≤ B + 300 → x2.2.2.2 ≤ 10 → 0 ≤ x2.2.2.2 → Ck B' (cur4 x2) → Tot (spec_l1Cur_liftGrid_k1 a x2) fun r => (2 ≤ r.1.length ∧ r.1.length ≤ 12) ∧ Ck (B + 300) r.2 := by
  intro B' x2 hB' h10 h0 hc
  unfold spec_l1Cur_liftGrid_k1 spec_raInt
  simp only [Option.bind_some]
  refine Tot.bind (P := fun y : List Int × Int × Int × List Rt => (2 ≤ y.2.2.2.length ∧ y.2.2.2.length ≤ 12) ∧ Ck (B' + 120) (cur4 y)) ?_ fun y ⟨⟨y2, y12⟩, yc⟩ => ?_
  ·refine Tot.loop (fun x => (2 ≤ x.2.2.2.1.length ∧ x.2.2.2.1.length ≤ 12) ∧ (0 ≤ x.2.2.2.2 ∧ x.2.2.2.2 ≤ 60) ∧ Ck (B' + 2 * x.2.2.2.2.toNat) (cur4 x)) (fun x => (60 - x.2.2.2.2).toNat) (fun x ⟨⟨xl, xh⟩, ⟨t0, t1⟩, xc⟩ => ?_) _ ⟨⟨by simp, by simp⟩, ⟨by simp, by simp⟩, by simpa [cur4] using hc⟩
   obtain ⟨c1, c2, c3, l, tr⟩ := x
   simp only [cur4] at xl xh t0 t1 xc ⊢
   unfold spec_l1Cur_liftGrid_b3
   rw [w64_id (n := x2.2.2.2 + 2) (by omega) (by omega)]
   refine Tot.ite (fun hk => ?_) (fun hk => Tot.inr ⟨⟨xl, xh⟩, xc.mono (by omega)⟩)
   simp only [Bool.and_eq_true, decide_eq_true_eq] at hk
   refine (gridRat_ok (by omega) xc a1 a2).bind fun v36 ⟨_, h36⟩ => ?_
   refine (imPut_ok l v36.1 (by omega)).bind fun v37 ⟨m1, m2⟩ => Tot.inl ?_
   have hw : w64 (tr + 1) = tr + 1 := w64_id (by omega) (by omega)
   simp only [hw]
   exact ⟨⟨⟨by omega, by omega⟩, ⟨by omega, by omega⟩, Ck.mono (c := v36.2) h36 (by omega)⟩, by omega⟩
  ·unfold spec_l1Cur_liftGrid_k2
   refine (gridRat_ok (by omega) yc a1 a2).bind fun v6 ⟨h6, hc6⟩ => ?_
   refine (one_ok hc6 (by omega) _).bind fun v29 h29 => ?_
   refine Tot.ite (fun _ => ?_) (fun _ => k3 _ _ _ (by omega : B' + 120 + 2 + 2 + 30 ≤ B + 300) y2 y12 h6.gm h29)
   refine (among_ok h29 (by omega) _ (by simp)).bind fun v31 ⟨m31, h31⟩ => ?_
   simp only [List.mem_cons, List.not_mem_nil, or_false] at m31
   exact (liPlus_gm h6 (by omega) (by omega)).bind fun v32 h32 => k3 _ _ _ (by omega : B' + 120 + 2 + 2 + 2 + 30 ≤ B + 300) y2 y12 h32 h31
 unfold spec_l1Cur_liftGrid
 refine (among_ok hc (by omega) _ (by simp)).bind fun v1 ⟨m1, h1⟩ => ?_
 simp only [List.mem_cons, List.not_mem_nil, or_false] at m1
 refine (one_ok h1 (by omega) _).bind fun v38 h38 => ?_
 exact Tot.ite (fun _ => k1 _ _ (by omega : B + 2 + 2 + 250 ≤ B + 300) (by show (10 : Int) ≤ 10; omega) (by show (0 : Int) ≤ 10; omega) h38) (fun _ => k1 _ _ (by omega : B + 2 + 2 + 250 ≤ B + 300) (by show v1.1 ≤ 10; omega) (by show 0 ≤ v1.1; omega) h38)
theorem lift_ok {B : Nat} (hB : B ≤ 100000) {c : Cur} (hc : Ck B c) : Tot (spec_l1Cur_lift c) fun r => (2 ≤ r.1.length ∧ r.1.length ≤ 12) ∧ Ck (B + 320) r.2 := by
 unfold spec_l1Cur_lift
 refine (among_ok hc (by omega) _ (by simp)).bind fun v1 ⟨m1, h1⟩ => ?_
 simp only [List.mem_cons, List.not_mem_nil, or_false] at m1
 refine (liftGrid_ok (by omega) h1 (by omega) (by omega)).bind fun v2 ⟨l2, h2⟩ => ?_
 refine (one_ok h2 (by omega) _).bind fun v3 h3 => ?_
 refine Tot.bind (P := fun _ => True) ?_ fun w _ => ?_
 ·refine Tot.ite (fun _ => Tot.ret trivial) (fun _ => ?_)
  rw [(both_isLift v2.1 (by omega)).1, Option.bind_some]
  exact Tot.ret trivial
 ·refine Tot.ite (fun _ => ?_) (fun _ => Tot.ret ⟨l2, Ck.mono (c := v3.2) h3 (by omega)⟩)
  refine (among_ok h3 (by omega) _ (by simp)).bind fun v7 ⟨m7, h7⟩ => ?_
  simp only [List.mem_cons, List.not_mem_nil, or_false] at m7
  refine (gridRat_ok (by omega) h7 (by omega) (by omega)).bind fun v8 ⟨h8, hc8⟩ => ?_
  unfold spec_raInt
  simp only [Option.bind_some]
  exact (liPlus_tot _ _).bind fun v11 _ => Tot.ret ⟨⟨by simp, by simp⟩, Ck.mono (c := v8.2) hc8 (by omega)⟩
theorem anyLift_ok {B : Nat} (hB : B ≤ 100000) {c : Cur} (hc : Ck B c) : Tot (spec_l1Cur_anyLift c) fun r => r.1.length ≤ 13 ∧ Ck (B + 350) r.2 := by
 unfold spec_l1Cur_anyLift spec_l1Cur_anyLift_k1
 refine (lift_ok hB hc).bind fun v1 ⟨⟨l2, l12⟩, h1⟩ => ?_
 refine (pick_ok h1 (by omega) _).bind fun v2 ⟨⟨p1, p2⟩, h2⟩ => ?_
 refine Tot.idx p1 (p2 (by omega)) fun v3 _ => ?_
 refine (pick_ok h2 (by omega) _).bind fun v5 ⟨_, h5⟩ => ?_
 refine Tot.ite (fun _ => ?_) (fun _ => Tot.ite (fun _ => ?_) (fun _ => Tot.ite (fun _ => ?_) (fun _ => Tot.ite (fun _ => ?_) (fun _ => Tot.ite (fun _ => ?_) (fun _ => Tot.ret ⟨by show v1.1.length ≤ 13; omega, Ck.mono (c := v5.2) h5 (by omega)⟩)))))
 ·exact (anyRat_ok (by omega) h5).bind fun v7 h7 => Tot.ret ⟨by show (v1.1.set _ _).length ≤ 13; rw [List.length_set]; omega, Ck.mono (c := v7.2) h7 (by omega)⟩
 ·exact (anyRat_ok (by omega) h5).bind fun v7 h7 => Tot.ret ⟨by show (v1.1.set _ _).length ≤ 13; rw [List.length_set]; omega, Ck.mono (c := v7.2) h7 (by omega)⟩
 ·refine (among_ok h5 (by omega) _ (by simp)).bind fun v11 ⟨_, h11⟩ => ?_
  exact (liPlus_tot _ _).bind fun v12 _ => Tot.ret ⟨by show (v1.1.set _ _).length ≤ 13; rw [List.length_set]; omega, Ck.mono (c := v11.2) h11 (by omega)⟩
 ·exact Tot.ret ⟨by simp, Ck.mono (c := v5.2) h5 (by omega)⟩
 ·refine Tot.bind (P := fun y : List Int × Int × Int × List Pt => y.2.2.2.length ≤ 13 ∧ cur4 y = v5.2) ?_ fun y ⟨hy, hyc⟩ => Tot.ret ⟨hy, ?_⟩
  ·refine Tot.loop (fun x => x.length ≤ 13) (fun x => 13 - x.length) (fun x hx => ?_) _ (by simp)
   unfold spec_l1Cur_anyLift_b1
   refine Tot.ite (fun hk => ?_) (fun hk => Tot.inr ⟨hx, rfl⟩)
   have hk' : (x.length : Int) < 13 := of_decide_eq_true hk
   rw [spec_raMake_gen _ 12 (by omega) (by omega) (by omega) (by omega) (by omega), Option.bind_some]
   exact Tot.guard (by simp; omega) (Tot.inl ⟨by simp; omega, by simp; omega⟩)
  ·show Ck _ (cur4 y)
   rw [hyc]; exact Ck.mono (c := v5.2) h5 (by omega)
theorem farRat_ok {B : Nat} (hB : B ≤ 100000) {c : Cur} (hc : Ck B c) : Tot (spec_l1Cur_farRat c) fun r => Ck (B + 30) r.2 := by
 unfold spec_l1Cur_farRat
 refine (among_ok hc (by omega) _ (by simp)).bind fun v1 ⟨m1, h1⟩ => ?_
 simp only [List.mem_cons, List.not_mem_nil, or_false] at m1
 refine (gridRat_ok (by omega) h1 (by omega) (by omega)).bind fun v2 ⟨_, h2⟩ => ?_
 refine (pick_ok h2 (by omega) _).bind fun v3 ⟨_, h3⟩ => ?_
 refine Tot.ite (fun _ => ?_) (fun _ => Tot.ite (fun _ => ?_) (fun _ => Tot.ite (fun _ => ?_) (fun _ => Tot.ret (Ck.mono (c := v3.2) h3 (by omega)))))
 ·exact (among_ok h3 (by omega) _ (by simp)).bind fun v5 ⟨_, h5⟩ => (liPlus_tot _ _).bind fun v6 _ => Tot.ret (Ck.mono (c := v5.2) h5 (by omega))
 ·exact (among_ok h3 (by omega) _ (by simp)).bind fun v5 ⟨_, h5⟩ => Tot.ret (Ck.mono (c := v5.2) h5 (by omega))
 ·exact (anyRat_ok (by omega) h3).bind fun v10 h10 => Tot.ret (Ck.mono (c := v10.2) h10 (by omega))
theorem stepsOf_ok {B : Nat} (hB : B ≤ 100000) {c : Cur} (hc : Ck B c) : Tot (spec_l1Cur_stepsOf c) fun r => (-1 ≤ r.1 ∧ r.1 ≤ 61) ∧ Ck (B + 4) r.2 := by
 unfold spec_l1Cur_stepsOf
 refine (among_ok hc (by omega) _ (by simp)).bind fun v1 ⟨m1, h1⟩ => ?_
 refine (among_ok h1 (by omega) _ (by simp)).bind fun v2 ⟨m2, h2⟩ => Tot.ret ⟨?_, h2⟩
 simp only [List.mem_cons, List.not_mem_nil, or_false] at m1 m2
 omega
theorem DrawLiftOrbit_ok {l : List Int} (h : Bytes l) : Tot (spec_DrawLiftOrbit l) fun r => r.1.length ≤ 13 ∧ -1 ≤ r.2.2 ∧ r.2.2 ≤ 61 := by
 unfold spec_DrawLiftOrbit
 refine (anyLift_ok (by omega) (ck0 h)).bind fun v1 ⟨l1, h1⟩ => ?_
 refine (farRat_ok (by omega) h1).bind fun v2 h2 => ?_
 exact (stepsOf_ok (by omega) h2).bind fun v3 ⟨a, h3⟩ => Tot.ret ⟨l1, a⟩
theorem DrawLiftCycle_ok {l : List Int} (h : Bytes l) : Tot (spec_DrawLiftCycle l) fun r => r.1.length ≤ 13 := by
 unfold spec_DrawLiftCycle
 refine (anyLift_ok (by omega) (ck0 h)).bind fun v1 ⟨l1, h1⟩ => ?_
 refine (farRat_ok (by omega) h1).bind fun v2 h2 => ?_
 refine (stepsOf_ok (by omega) h2).bind fun v3 ⟨a, h3⟩ => ?_
 exact (among_ok h3 (by omega) _ (by simp)).bind fun v4 _ => Tot.ret l1
theorem DrawTurnLift_ok {l : List Int} (h : Bytes l) : Tot (spec_DrawTurnLift l) fun r => r.1.length ≤ 13 := by
 unfold spec_DrawTurnLift spec_DrawLiftAt
 refine Tot.bind (P := fun r => r.1.length ≤ 13) ?_ fun r hr => Tot.ret hr
 refine (anyLift_ok (by omega) (ck0 h)).bind fun v1 ⟨l1, h1⟩ => ?_
 exact (farRat_ok (by omega) h1).bind fun v2 h2 => Tot.ret l1
end Go.PV

/-
 Plain laws: FnLiftOrbits.
 Conditions: none.
-/
set_option linter.all false
namespace Go.PV
theorem laws_qRats_self (xs : List Rt) (hl : xs.length ≤ 4611686018427387904) : laws_qRats xs xs = some true := by
 have hx := loop_idx (body := laws_qRats_b1 xs xs) xs.length (fun i => (i : Int)) (.inr ()) (fun i hi => by
  simp only [laws_qRats_b1, show ((i : Int) < (xs.length : Int)) from by omega, decide_true, if_true, idxO_lt hi, Option.bind_some, beq_self_eq_true, Bool.and_self, Bool.not_true, Bool.false_eq_true, if_false, w64_nat (show i < 9223372036854775807 by omega)]) (by simp [laws_qRats_b1])
 unfold laws_qRats
 rw [if_neg (by simp), show (0 : Int) = ((0 : Nat) : Int) from rfl, hx]
 rfl
theorem laws_qMap_self (xs : List Pt) (hl : xs.length ≤ 4611686018427387904) : laws_qMap xs xs = some true := by
 have hx := loop_idx (body := laws_qMap_b1 xs xs) xs.length (fun i => (i : Int)) (.inr ()) (fun i hi => by
  simp only [laws_qMap_b1, show ((i : Int) < (xs.length : Int)) from by omega, decide_true, if_true, idxO_lt hi, Option.bind_some, beq_self_eq_true, Bool.and_self, Bool.not_true, Bool.false_eq_true, if_false, w64_nat (show i < 9223372036854775807 by omega)]) (by simp [laws_qMap_b1])
 unfold laws_qMap
 rw [if_neg (by simp), show (0 : Int) = ((0 : Nat) : Int) from rfl, hx]
 rfl
theorem isRat_neg' {y : Rt} (h : isRat y = true) : isRat (-y.1, y.2) = true := by
 have := isRat_neg h
 rwa [show (0 : Int) - y.1 = -y.1 by omega] at this
theorem spec_AddRats_eq {a b : Rt} (ha : isRat a = true) (hb : isRat b = true) : spec_AddRats a b = some (unO (addQ a b)) := by
 unfold spec_AddRats spec_raTwo
 simp only [spec_raGood_eq, ha, hb, Option.bind_some, if_true, Bool.not_true, Bool.false_eq_true, if_false, spec_raAdd_eq ha hb]
theorem cmp_val {a b : Rt} (ha : 0 < a.2) (hb : 0 < b.2) : (cmp a b = -1 ∧ val a < val b) ∨ (cmp a b = 1 ∧ val b < val a) ∨ (cmp a b = 0 ∧ val a = val b) := by
 have h1 := less_val ha hb
 have h2 := less_val hb ha
 unfold less at h1 h2
 simp only [decide_eq_true_eq] at h1 h2
 unfold cmp
 by_cases a1 : a.1 * b.2 < b.1 * a.2
 ·rw [if_pos a1]; exact .inl ⟨rfl, h1.1 a1⟩
 ·rw [if_neg a1]
  by_cases a2 : a.1 * b.2 > b.1 * a.2
  ·rw [if_pos a2]; exact .inr (.inl ⟨rfl, h2.1 a2⟩)
  ·rw [if_neg a2]
   refine .inr (.inr ⟨rfl, ?_⟩)
   have b1 : ¬ val a < val b := fun h => a1 (h1.2 h)
   have b2 : ¬ val b < val a := fun h => a2 (h2.2 h)
   grind
theorem cmp_mul {a b c d : Rt} (ha : 0 < a.2) (hb : 0 < b.2) (hc : 0 < c.2) (hd : 0 < d.2) (h1 : val a ≤ val b → val c ≤ val d) (h2 : val b ≤ val a → val d ≤ val c) : ¬ w64 (cmp a b * cmp c d) < 0 := by
 rcases cmp_val ha hb with ⟨e, f⟩ | ⟨e, f⟩ | ⟨e, f⟩ <;> rcases cmp_val hc hd with ⟨e', f'⟩ | ⟨e', f'⟩ | ⟨e', f'⟩ <;> rw [e, e'] <;> first
  | decide
  | (exfalso; grind)
theorem near_zero : near (0, 1) = true := by rfl
section
variable {n : Nat} {p : Nat → Pt}
theorem orbit_tab (h : LiftT n p) (hf : isLift (tab n p) = true) {x : Rt} (hx : near x = true) {k : Nat} (hk : k ≤ 60) (hl : n ≤ 4611686018427387904) : spec_LiftOrbit (tab n p) x (k : Int) = some (runR n p x k) ∧ impl_LiftOrbit (tab n p) x (k : Int) = some (runR n p x k) := by
 obtain ⟨h1, h2⟩ := both_isLift (tab n p) (by rw [tab_len]; exact hl)
 have hin : inB 0 60 (k : Int) = true := inB_iff.2 ⟨by omega, by omega⟩
 have e : spec_LiftOrbit (tab n p) x (k : Int) = some (runR n p x k) := by
  unfold spec_LiftOrbit
  rw [h1]
  simp only [Option.bind_some, hf, Bool.not_true, Bool.false_eq_true, if_false, spec_liNear_eq, hx, spec_orSteps, spec_l1In_eq, hin, spec_liRun_eq h.cur k (by omega)]
 obtain ⟨r, ok, _, e1, e2⟩ := both_LiftOrbit (tab n p) x (k : Int) (by rw [tab_len]; exact hl)
 exact ⟨e, by rw [e2, ← e1, e]⟩
end
theorem orbit_cases (f : List Pt) (x : Rt) (m : Int) (hl : f.length ≤ 1048576) :
  (∃ n p k, f = tab n p ∧ LiftT n p ∧ isLift f = true ∧ near x = true ∧ m = (k : Nat) ∧ k ≤ 60 ∧ spec_LiftOrbit f x m = some (runR n p x k) ∧ impl_LiftOrbit f x m = some (runR n p x k)) ∨ (spec_LiftOrbit f x m = some ([], false) ∧ impl_LiftOrbit f x m = some ([], false)) := by
 obtain ⟨r, ok, _, e1, e2⟩ := both_LiftOrbit f x m (by omega)
 rcases impl_LiftOrbit_eq f x m (by omega) with ⟨a, b, c, n, p, k, rfl, hL, rfl, hk, e3, _⟩ | ⟨a, b⟩
 ·left
  exact ⟨n, p, k, rfl, hL, a, b, rfl, hk, by rw [e1, ← e2, e3], e3⟩
 ·right
  exact ⟨by rw [e1, ← e2, b], b⟩
theorem orb_k2 (f : List Pt) (x : Rt) (m : Int) (hl : f.length ≤ 1048576) {v : List Rt × Bool} (e1 : spec_LiftOrbit f x m = some v) : laws_FnLiftOrbits_k2 (f, x, m) v v () = some true := by
 unfold laws_FnLiftOrbits_k2
 rcases orbit_cases f x m hl with ⟨n, p, k, rfl, hL, hf, hx, rfl, hk, s, i⟩ | ⟨s, i⟩
 ·rw [s] at e1
  obtain rfl := Option.some.inj e1
  rw [tab_len] at hl
  cases hq : orbQ n p x k with
  | none => rw [runR_none hq]; rfl
  | some z =>
   rw [runR_some hq]
   obtain ⟨s0, i0⟩ := orbit_tab hL hf near_zero hk (by omega)
   have e3 : w64 ((k : Int) + 1) = ((k + 1 : Nat) : Int) := w64_nat (by omega)
   simp only [Bool.not_true, Bool.false_eq_true, if_false, tab_len, e3, bne_self_eq_false, s0, i0, Option.bind_some]
   rw [idxO_tab0 (show 0 < k + 1 by omega), orb_zero]
   simp only [Option.bind_some, beq_self_eq_true, Bool.and_self, Bool.not_true, Bool.false_eq_true, if_false]
   have hrl : (runR n p (0, 1) k).1.length ≤ 61 := by
    unfold runR; split
    ·rw [tab_len]; omega
    ·simp
   rw [laws_qRats_self _ (by omega)]
   simp only [Option.bind_some, Bool.not_true, Bool.false_eq_true, if_false]
   have hx0 : isRat x = true := (near_rat hx).1
   cases hz : orbQ n p (0, 1) k with
   | none =>
    rw [runR_none hz]
    have : loopO (laws_FnLiftOrbits_b1 (tab n p, x, (k : Int)) (tab (k + 1) (orb n p x), true) ([], false)) (0 : Int) = some (.inr ()) := loop_idx (body := laws_FnLiftOrbits_b1 (tab n p, x, (k : Int)) (tab (k + 1) (orb n p x), true) ([], false)) 0 (fun i => (i : Int)) (.inr ()) (fun i hi => by omega) (by simp [laws_FnLiftOrbits_b1])
    rw [this]; rfl
   | some z0 =>
    rw [runR_some hz]
    have : loopO (laws_FnLiftOrbits_b1 (tab n p, x, (k : Int)) (tab (k + 1) (orb n p x), true) (tab (k + 1) (orb n p (0, 1)), true)) (0 : Int) = some (.inr ()) := by
     refine loop_idx (body := laws_FnLiftOrbits_b1 (tab n p, x, (k : Int)) (tab (k + 1) (orb n p x), true) (tab (k + 1) (orb n p (0, 1)), true)) (k + 1) (fun i => (i : Int)) (.inr ()) (fun i hi => ?_) (by simp [laws_FnLiftOrbits_b1, tab_len])
     have q1 := orbQ_some hq (show i ≤ k by omega)
     have q2 := orbQ_some hz (show i ≤ k by omega)
     have r1 := orbQ_rat hx0 q1
     have r2 := orbQ_rat (near_rat near_zero).1 q2
     simp only [laws_FnLiftOrbits_b1, tab_len, show ((i : Int) < ((k + 1 : Nat) : Int)) from by omega, decide_true, if_true, idxO_tab hi, Option.bind_some, laws_qUp_eq (tame_of (near_rat near_zero).1) (tame_of hx0), laws_qUp_eq (tame_of r2) (tame_of r1)]
     have := cmp_mul (a := (0, 1)) (b := x) (c := orb n p (0, 1) i) (d := orb n p x i) (by decide) (rt_pos hx0) (rt_pos r2) (rt_pos r1) (fun hle => orb_mono hL hle i q2 q1) (fun hle => orb_mono hL hle i q1 q2)
     rw [decide_eq_false this, w64_nat (show i < 9223372036854775807 by omega)]
     rfl
    rw [this]; rfl
 ·rw [s] at e1
  obtain rfl := Option.some.inj e1
  rfl
theorem cycle_same {x z : Rt} {d : Int} (hx : isRat x = true) (hz : isRat z = true) (h : subQ z x = some (d, 1)) : z.1 = w64 (x.1 + w64 (d * x.2)) ∧ z.2 = x.2 := by
 have v := subQ_val hz hx h
 rw [val_whole] at v
 obtain ⟨x1, x2, x3, x4, x5⟩ := isRat_iff.1 hx
 obtain ⟨z1, z2, z3, z4, z5⟩ := isRat_iff.1 hz
 have e1 := val_mul (r := z) (by omega)
 have e2 := val_mul (r := x) (by omega)
 have key : z = (x.1 + d * x.2, x.2) := by
  refine frac_same z5 ?_ (by omega) (by show 0 < x.2; omega) ?_
  ·show Int.gcd (x.1 + d * x.2) x.2 = 1
   rw [Int.gcd_add_mul_right_left]; exact x5
  ·show z.1 * x.2 = (x.1 + d * x.2) * z.2
   have : ((z.1 * x.2 : Int) : Rat) = (((x.1 + d * x.2) * z.2 : Int) : Rat) := by
    rw [Rat.intCast_mul, Rat.intCast_mul, Rat.intCast_add, Rat.intCast_mul, ← e1, ← e2, v]; grind
   exact_mod_cast this
 have k1 : z.1 = x.1 + d * x.2 := by rw [key]
 have k2 : z.2 = x.2 := by rw [key]
 refine ⟨?_, k2⟩
 rw [w64_id (n := d * x.2) (by omega) (by omega), w64_id (by omega) (by omega)]
 exact k1
theorem cycle_cases (f : List Pt) (x : Rt) (m : Int) (hl : f.length ≤ 1048576) {v : Int × Bool} (e : impl_LiftCycle f x m = some v) (hv : v.2 = true) :
  ∃ n p k z, f = tab n p ∧ LiftT n p ∧ isLift f = true ∧ near x = true ∧ m = (k : Nat) ∧ k ≤ 60 ∧ orbQ n p x k = some z ∧ subQ z x = some (v.1, 1) := by
 unfold impl_LiftCycle at e
 by_cases h0 : m < 1
 ·rw [if_pos (decide_eq_true h0)] at e
  obtain rfl := Option.some.inj e
  cases hv
 ·rw [if_neg (by simpa using h0)] at e
  rcases orbit_cases f x m hl with ⟨n, p, k, rfl, hL, hf, hx, rfl, hk, s, i⟩ | ⟨s, i⟩
  ·rw [i, Option.bind_some] at e
   cases hq : orbQ n p x k with
   | none =>
    rw [runR_none hq] at e
    obtain rfl := Option.some.inj e
    cases hv
   | some z =>
    rw [runR_some hq] at e
    have hr := (near_rat hx).1
    have e3 : orb n p x k = z := by simp [orb, hq]
    have hz := orbQ_rat hr hq
    simp only [Bool.not_true, Bool.false_eq_true, if_false, idxO_tab (show k < k + 1 by omega), e3, Option.bind_some, impl_difference, impl_SubtractRats_q hz hr] at e
    refine ⟨n, p, k, z, rfl, hL, hf, hx, rfl, hk, hq, ?_⟩
    cases hs : subQ z x with
    | none =>
     rw [hs] at e
     simp only [unO, Bool.not_false, Bool.true_or, if_true, Option.bind_some] at e
     obtain rfl := Option.some.inj e
     cases hv
    | some w =>
     rw [hs] at e
     simp only [unO, Bool.not_true, Bool.false_or] at e
     obtain ⟨w1, w2⟩ := w
     by_cases h1 : w2 = 1
     ·subst h1
      simp only [bne_self_eq_false, Bool.false_eq_true, if_false, Option.bind_some] at e
      obtain rfl := Option.some.inj e
      rfl
     ·have : (w2 != 1) = true := by simpa using h1
      simp only [this, if_true, Option.bind_some] at e
      obtain rfl := Option.some.inj e
      cases hv
  ·rw [i] at e
   obtain rfl := Option.some.inj e
   cases hv
section
variable {n : Nat} {p : Nat → Pt} {y : Rt}
theorem turn_form (hf : isLift (tab n p) = true) (h : LiftT n p) (hn : n ≤ 1048576) (hy : near y = true) : impl_TurnLift (tab n p) y = some (if tnB p y n = true then ([], false) else if isLift (tab n (tnP p y)) = true then (tab n (tnP p y), true) else ([], false)) := by
 obtain ⟨h1, h2⟩ := both_isLift (tab n p) (by rw [tab_len]; omega)
 have hp : ∀ i, i < n → isRat (p i).2 = true := fun i hi => (h.cur.y i hi).1
 unfold impl_TurnLift
 rw [h2, hf]
 simp only [Option.bind_some, Bool.not_true, Bool.false_eq_true, if_false, impl_isFar_eq, hy, impl_turn_loop hp (near_rat hy).1 hn]
 cases hb : tnB p y n
 ·obtain ⟨h3, h4⟩ := both_isLift (tab n (tnP p y)) (by rw [tab_len]; omega)
  simp only [impl_TurnLift_k1, Bool.false_eq_true, if_false, h4, Option.bind_some]
  cases isLift (tab n (tnP p y)) <;> rfl
 ·rfl
theorem turn_no (f : List Pt) (hl : f.length ≤ 1048576) (h : (isLift f && near y) = false) : impl_TurnLift f y = some ([], false) := by
 obtain ⟨h1, h2⟩ := both_isLift f (by omega)
 unfold impl_TurnLift
 rw [h2]
 cases hf : isLift f
 ·rfl
 ·rw [hf, Bool.true_and] at h
  simp only [Option.bind_some, Bool.not_true, Bool.false_eq_true, if_false, impl_isFar_eq, h]
  rfl
theorem disp_form (h : LiftT n p) (hf : isLift (tab n p) = true) (hn : n ≤ 1048576) : spec_Displacements (tab n p) = some (mnN (dispF p) n, mxN (dispF p) n, true) ∧ impl_Displacements (tab n p) = some (mnN (dispF p) n, mxN (dispF p) n, true) := by
 obtain ⟨h1, h2⟩ := both_isLift (tab n p) (by rw [tab_len]; omega)
 rw [hf] at h1 h2
 have e : impl_Displacements (tab n p) = some (mnN (dispF p) n, mxN (dispF p) n, true) := by unfold impl_Displacements; rw [h2]; simp [impl_moves_eq h.cur]
 obtain ⟨r, e1, e2⟩ := both_disp h.cur h1 h2
 exact ⟨by rw [e1, ← e2, e], e⟩
theorem tnB_no (h : tnB p y n = false) {i : Nat} (hi : i < n) : addQ (p i).2 y = some (tnP p y i).2 := by
 unfold tnB at h
 rw [List.any_eq_false] at h
 have := h i (List.mem_range.2 hi)
 unfold tnO at this
 cases hq : addQ (p i).2 y with
 | none => rw [hq] at this; simp at this
 | some r => simp [tnP, tnO, hq, cK]
end
theorem mn_shift {r s : Nat → Rt} {n : Nat} {c : Rat} (hn : 0 < n) (hr : ∀ i, i < n → isRat (r i) = true) (hs : ∀ i, i < n → isRat (s i) = true) (h : ∀ i, i < n → val (s i) = val (r i) + c) : val (mnN s n) = val (mnN r n) + c ∧ val (mxN s n) = val (mxN r n) + c := by
 obtain ⟨⟨i, hi, e1⟩, ⟨j, hj, e2⟩⟩ := mn_some (r := r) n hn
 obtain ⟨⟨k, hk, e3⟩, ⟨l, hl, e4⟩⟩ := mn_some (r := s) n hn
 have br := mn_rat (hr 0 hn) hr n (Nat.le_refl n)
 have bs := mn_rat (hs 0 hn) hs n (Nat.le_refl n)
 have a1 := mn_all n hr (hr 0 hn)
 have a2 := mn_all n hs (hs 0 hn)
 have t1 := (less_val_no (rt_pos (hr k hk)) (rt_pos br.1)).1 (a1 k hk).1
 have t2 := (less_val_no (rt_pos (hs i hi)) (rt_pos bs.1)).1 (a2 i hi).1
 have t3 := (less_val_no (rt_pos br.2) (rt_pos (hr l hl))).1 (a1 l hl).2
 have t4 := (less_val_no (rt_pos bs.2) (rt_pos (hs j hj))).1 (a2 j hj).2
 have u1 := h i hi
 have u2 := h j hj
 have u3 := h k hk
 have u4 := h l hl
 rw [e1] at t1 ⊢
 rw [e2] at t3 ⊢
 rw [e3] at t2 ⊢
 rw [e4] at t4 ⊢
 constructor <;> grind
theorem val_neg {y : Rt} : val (-y.1, y.2) = -val y := by
 show ((-y.1 : Int) : Rat) / ((y.2 : Int) : Rat) = -(((y.1 : Int) : Rat) / ((y.2 : Int) : Rat))
 rw [Rat.intCast_neg]; grind
theorem near_neg {y : Rt} (h : near y = true) : near (-y.1, y.2) = true := by
 obtain ⟨a, b, c⟩ := near_rat h
 unfold near
 rw [isRat_neg' a]
 have : inB (-1000 * y.2) (1000 * y.2) (-y.1) = true := inB_iff.2 ⟨by omega, by omega⟩
 simpa using this
theorem turn_k1 (f : List Pt) (y : Rt) (hl : f.length ≤ 1048576) {v2 : List Pt × Rt × Int} {v3 v4 : List Rt × Bool} {v9 : List Pt × Bool} (e : impl_TurnLift f y = some v9) : laws_FnLiftOrbits_k1 v2 v3 v4 (f, y) v9 () = laws_FnLiftOrbits_k2 v2 v3 v4 () := by
 unfold laws_FnLiftOrbits_k1
 cases hg : (isLift f && near y)
 ·rw [turn_no f hl hg] at e
  obtain rfl := Option.some.inj e
  rfl
 ·rw [Bool.and_eq_true] at hg
  obtain ⟨hf, hy⟩ := hg
  obtain ⟨n, p, rfl, hL⟩ := isLift_tab hf
  rw [tab_len] at hl
  rw [turn_form hf hL hl hy] at e
  obtain rfl := Option.some.inj e
  cases hb : tnB p y n
  ·cases hf' : isLift (tab n (tnP p y))
   ·rfl
   ·obtain ⟨n', p', e1, hL'⟩ := isLift_tab hf'
    obtain rfl : n' = n := by have := congrArg List.length e1; rw [tab_len, tab_len] at this; exact this.symm
    -- the same points
    have hpp : ∀ i, i < n' → p' i = tnP p y i := fun i hi => by
     have := congrArg (fun l => idxO l (i : Int)) e1
     simp only [idxO_tab hi] at this
     exact (Option.some.inj this).symm
    rw [e1] at hf'
    have hyr := (near_rat hy).1
    obtain ⟨yl1, yl2, yl3, yl4, yl5⟩ := isRat_iff.1 hyr
    have hn0 : 0 < n' := by have := hL.cur.lo; omega
    have had : ∀ i, i < n' → addQ (p i).2 y = some (p' i).2 := fun i hi => by rw [hpp i hi]; exact tnB_no hb hi
    have hfst : ∀ i, i < n' → (p' i).1 = (p i).1 := fun i hi => by rw [hpp i hi]; rfl
    have hvy : ∀ i, i < n' → val (p' i).2 = val (p i).2 + val y := fun i hi => addQ_val (hL.cur.yr hi) hyr (had i hi)
    -- turned back
    have hback : impl_TurnLift (tab n' p') (-y.1, y.2) = some (tab n' p, true) := by
     have hsub : ∀ i, i < n' → addQ (p' i).2 (-y.1, y.2) = some (p i).2 := fun i hi => addQ_of (hL'.cur.yr hi) (isRat_neg' hyr) (hL.cur.yr hi) (by rw [val_neg, hvy i hi]; grind)
     have hnb : tnB p' (-y.1, y.2) n' = false := by
      unfold tnB
      rw [List.any_eq_false]
      intro i hi
      unfold tnO
      rw [hsub i (List.mem_range.1 hi)]
      simp
     have htab : tab n' (tnP p' (-y.1, y.2)) = tab n' p := by
      refine tab_ext fun i hi => ?_
      have := tnB_no hnb hi
      rw [hsub i hi] at this
      have t2 := Option.some.inj this
      have t1 : (tnP p' (-y.1, y.2) i).1 = (p i).1 := hfst i hi
      exact Prod.ext t1 t2.symm
     rw [turn_form hf' hL' hl (near_neg hy), hnb, htab, hf]
     rfl
    obtain ⟨d1, d2⟩ := disp_form hL hf hl
    obtain ⟨d3, d4⟩ := disp_form hL' hf' hl
    have hr : ∀ i, i < n' → isRat (dispF p i) = true := fun i hi => (disp_some hL.cur hi).2
    have hr' : ∀ i, i < n' → isRat (dispF p' i) = true := fun i hi => (disp_some hL'.cur hi).2
    have hsh := mn_shift (r := dispF p) (s := dispF p') (c := val y) hn0 hr hr' (fun i hi => by
     have a1 := subQ_val (hL.cur.yr hi) (hL.cur.xr hi) (disp_some hL.cur hi).1
     have a2 := subQ_val (hL'.cur.yr hi) (hL'.cur.xr hi) (disp_some hL'.cur hi).1
     rw [a2, a1, hvy i hi, hfst i hi]; grind)
    have br := mn_rat (hr 0 hn0) hr n' (Nat.le_refl n')
    have bs := mn_rat (hr' 0 hn0) hr' n' (Nat.le_refl n')
    have s1 := addQ_of br.1 hyr bs.1 hsh.1
    have s2 := addQ_of br.2 hyr bs.2 hsh.2
    obtain ⟨g1, g2⟩ := both_isLift (tab n' p') (by rw [tab_len]; omega)
    have hneg : (w64 (0 - y.1), y.2) = ((-y.1, y.2) : Rt) := by rw [w64_id (by omega) (by omega)]; rw [show (0 : Int) - y.1 = -y.1 by omega]
    simp only [Bool.false_eq_true, if_false, if_true, e1, hneg, hback, Option.bind_some, Bool.not_true, laws_qMap_self (tab n' p) (by rw [tab_len]; omega), impl_IsLift, g2, hf', d1, d2, d4, spec_AddRats_eq br.1 hyr, spec_AddRats_eq br.2 hyr, s1, s2, unO, beq_self_eq_true, Bool.and_self, Bool.or_self]
    rfl
  ·rfl
theorem laws_FnLiftOrbits_eq (a0 a1 : List Int) (h0 : Bytes a0) (h1 : Bytes a1) : laws_FnLiftOrbits a0 a1 = some true := by
 unfold laws_FnLiftOrbits
 by_cases hbig : (decide (w64 ((a0.length : Int) + (a1.length : Int)) > 1048576)) = true
 ·rw [if_pos hbig]
 rw [if_neg hbig]
 obtain ⟨v2, e2, hv2⟩ := DrawLiftOrbit_ok h0
 obtain ⟨v5, e5, hv5⟩ := DrawLiftCycle_ok h1
 obtain ⟨v8, e8, hv8⟩ := DrawTurnLift_ok h1
 obtain ⟨f, x, m⟩ := v2
 obtain ⟨g, y, q⟩ := v5
 obtain ⟨t, b⟩ := v8
 simp only at hv2 hv5 hv8
 obtain ⟨r3, ok3, l3, s3, i3⟩ := both_LiftOrbit f x m (by omega)
 obtain ⟨r6, s6, i6⟩ := both_LiftCycle g y q (by omega)
 obtain ⟨r9, ok9, l9, s9, i9⟩ := both_TurnLift t b (by omega)
 rw [e2, Option.bind_some, i3, Option.bind_some, s3, Option.bind_some, e5, Option.bind_some, i6, Option.bind_some, s6, Option.bind_some, e8, Option.bind_some, i9, Option.bind_some, s9, Option.bind_some]
 rw [laws_qRats_self r3 (by omega), laws_qMap_self r9 (by omega)]
 simp only [beq_self_eq_true, Bool.not_true, Bool.false_eq_true, if_false, Option.bind_some, bne_self_eq_false]
 have hk1 : laws_FnLiftOrbits_k1 (f, x, m) (r3, ok3) (r3, ok3) (t, b) (r9, ok9) () = some true := by
  rw [turn_k1 t b (by omega) i9]
  exact orb_k2 f x m (by omega) s3
 rw [hk1]
 cases h6 : r6.2
 ·rfl
 ·obtain ⟨n, p, k, z, rfl, hL, hf, hy, rfl, hk, hq, hs⟩ := cycle_cases g y q (by omega) i6 h6
  rw [tab_len] at hv5
  obtain ⟨s0, i0⟩ := orbit_tab hL hf hy hk (by omega)
  rw [runR_some hq] at s0 i0
  have e3 : orb n p y k = z := by simp [orb, hq]
  have hz := orbQ_rat (near_rat hy).1 hq
  obtain ⟨c1, c2⟩ := cycle_same (near_rat hy).1 hz hs
  have e4 : w64 ((k : Int) + 1) = ((k + 1 : Nat) : Int) := w64_nat (by omega)
  simp only [if_true, i0, s0, Option.bind_some, Bool.not_true, Bool.false_eq_true, if_false, laws_qRats_self (tab (k + 1) (orb n p y)) (by rw [tab_len]; omega), tab_len, e4, bne_self_eq_false, idxO_tab (show k < k + 1 by omega), e3, ← c1, c2, beq_self_eq_true, Bool.and_self]
end Go.PV

/-
 What comes in as bytes is bytes.
 Conditions: none.
-/
set_option linter.all false
namespace Go.PV
theorem bytes_of {l : List Int} (h : (Ty.sl (.int .u8)).ok l) : Bytes l := by
 refine ⟨Nat.le_trans h.1 (by decide), fun b hb => ?_⟩
 have h2 : (Lit.int .u8 b).wf = true := h.2 b hb
 simp only [Lit.wf, Bool.and_eq_true, decide_eq_true_eq] at h2
 have e1 : IntKind.u8.min = 0 := by decide
 have e2 : IntKind.u8.max = 255 := by decide
 omega
end Go.PV
