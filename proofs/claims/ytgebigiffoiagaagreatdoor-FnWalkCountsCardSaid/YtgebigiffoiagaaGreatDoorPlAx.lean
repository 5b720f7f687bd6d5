/-
  Plain laws of what the functions answer.
  Conditions: none.
-/
import Derived.KernelRfl
import Derived.Test.YtgebigiffoiagaaGreatDoorPvCx
import Derived.Test.YtgebigiffoiagaaGreatDoorDf
set_option linter.all false
/-
 Plain laws: bounds, lists of numbers, vectors.
 Conditions: none.
-/
namespace Go.PV
def inB (a b n : Int) : Bool := decide (a ≤ n) && decide (n ≤ b)
theorem inB_iff {a b n : Int} : inB a b n = true ↔ a ≤ n ∧ n ≤ b := by simp [inB]
theorem spec_l1In_eq (v a b : Int) : spec_l1In v a b = some (inB a b v) := rfl
theorem impl_within_eq (v a b : Int) : impl_within v a b = some (inB a b v) := rfl
theorem spec_l1All_eq (xs : List Int) (a b : Int) (hl : xs.length ≤ 4611686018427387904) : spec_l1All xs a b = some (xs.all (inB a b)) := by
 have h := loop_any (xs := xs) (body := spec_l1All_b1 xs a b) (fun x => !inB a b x) (fun i => (i : Int)) (.inl false) (.inr ()) (fun i x hx => by
  have hi := getElem?_lt hx
  simp only [spec_l1All_b1, idxO_nat, hx, spec_l1In_eq, Option.bind_some, w64_nat (show i < 9223372036854775807 by omega), show ((i : Int) < (xs.length : Int)) from by omega, decide_true, if_true]
  cases inB a b x <;> rfl) (by simp [spec_l1All_b1])
 unfold spec_l1All
 rw [show (0 : Int) = ((0 : Nat) : Int) from rfl, h, List.any_eq_not_all_not]
 simp only [Bool.not_not]
 cases xs.all (inB a b) <;> rfl
def isVec (xs : List Int) : Bool := inB 1 8 xs.length && xs.all (inB 1 1000000)
theorem spec_gwVector_eq (xs : List Int) (hl : xs.length ≤ 4611686018427387904) : spec_gwVector xs = some (isVec xs) := by
 simp only [spec_gwVector, spec_l1In_eq, spec_l1All_eq xs _ _ hl, Option.bind_some, isVec]
 cases inB 1 8 xs.length <;> rfl
theorem slices_IndexFunc_Lint_int_eq (xs : List Int) (f : Int → Option Bool) (p : Int → Bool) (hf : ∀ x, f x = some (p x)) (hl : xs.length ≤ 4611686018427387904) :
  slices_IndexFunc_Lint_int xs f = some (match xs.findIdx? p with | some i => (i : Int) | none => -1) := by
 have h := loop_first (xs := xs) (body := slices_IndexFunc_Lint_int_b1 xs f) p (fun i => (i : Int)) (fun i => .inl (i : Int)) (.inr ()) (fun i x hx => by
  have hi := getElem?_lt hx
  simp only [slices_IndexFunc_Lint_int_b1, idxO_nat, hx, hf, Option.bind_some, w64_nat (show i < 9223372036854775807 by omega), show ((i : Int) < (xs.length : Int)) from by omega, decide_true, if_true]
  cases p x <;> rfl) (by simp [slices_IndexFunc_Lint_int_b1])
 unfold slices_IndexFunc_Lint_int
 rw [show (0 : Int) = ((0 : Nat) : Int) from rfl, h]
 cases xs.findIdx? p <;> rfl
theorem slices_ContainsFunc_Lint_int_eq (xs : List Int) (f : Int → Option Bool) (p : Int → Bool) (hf : ∀ x, f x = some (p x)) (hl : xs.length ≤ 4611686018427387904) : slices_ContainsFunc_Lint_int xs f = some (xs.any p) := by
 simp only [slices_ContainsFunc_Lint_int, slices_IndexFunc_Lint_int_eq xs f p hf hl, Option.bind_some]
 cases h : xs.findIdx? p with
 | none =>
  have hn := List.findIdx?_eq_none_iff.1 h
  have : xs.any p = false := by simpa using hn
  simp [this]
 | some m =>
  obtain ⟨hm, hp, _⟩ := List.findIdx?_eq_some_iff_getElem.1 h
  have : xs.any p = true := by simp; exact ⟨xs[m], List.getElem_mem hm, hp⟩
  simp [this]
theorem impl_isVector_1_eq (x : Int) : impl_isVector_1 x = some (!inB 1 1000000 x) := by simp [impl_isVector_1, impl_within_eq]
theorem impl_isVector_eq (xs : List Int) (hl : xs.length ≤ 4611686018427387904) : impl_isVector xs = some (isVec xs) := by
 unfold impl_isVector
 rw [impl_within_eq, Option.bind_some, slices_ContainsFunc_Lint_int_eq xs (fun x0 => impl_isVector_1 x0) _ impl_isVector_1_eq hl]
 simp only [Option.bind_some, isVec, List.any_eq_not_all_not, Bool.not_not]
 cases inB 1 8 xs.length <;> rfl
theorem laws_eqIntS_self (xs : List Int) (hl : xs.length ≤ 4611686018427387904) : laws_eqIntS xs xs = some true := by
 have h := loop_idx (body := laws_eqIntS_b1 xs xs) xs.length (fun i => (i : Int)) (.inr ()) (fun i hi => by
  simp only [laws_eqIntS_b1, idxO_lt hi, Option.bind_some, w64_nat (show i < 9223372036854775807 by omega), show ((i : Int) < (xs.length : Int)) from by omega, decide_true, if_true]
  simp) (by simp [laws_eqIntS_b1])
 unfold laws_eqIntS
 rw [show (0 : Int) = ((0 : Nat) : Int) from rfl, h]
 simp [laws_eqIntS_k1]
end Go.PV

/-
 Plain laws: greatest divisors, fractions, floors, fractions reduced.
 Conditions: none.
-/
namespace Go.PV
theorem toNat_gcd_step (a b : Nat) (hb : b ≠ 0) : Nat.gcd b (a % b) = Nat.gcd a b := by
 rw [Nat.gcd_comm a b, Nat.gcd_rec b a, Nat.gcd_comm]
theorem impl_gcd_loop (b : Nat) : ∀ a : Nat, loopO impl_greatestDivisor_b1 ((a : Int), (b : Int)) = some ((Nat.gcd a b : Nat) : Int) := by
 induction b using Nat.strongRecOn with
 | ind b ih =>
  intro a
  rw [loopO_eq]
  by_cases hb : b = 0
  ·subst hb; simp [impl_greatestDivisor_b1]
  ·have hb' : ((b : Int) != 0) = true := by simp; omega
   simp only [impl_greatestDivisor_b1, hb', if_true, guardO_bind_pos (show (b : Int) ≠ 0 by omega)]
   have : Int.tmod (a : Int) (b : Int) = ((a % b : Nat) : Int) := rfl
   rw [this, ih (a % b) (Nat.mod_lt _ (by omega)) b, toNat_gcd_step a b hb]
theorem spec_gcd_loop (b : Nat) : ∀ a : Nat, loopO spec_raCommon_b1 ((a : Int), (b : Int)) = some ((Nat.gcd a b : Nat) : Int) := by
 induction b using Nat.strongRecOn with
 | ind b ih =>
  intro a
  rw [loopO_eq]
  by_cases hb : b = 0
  ·subst hb; simp [spec_raCommon_b1]
  ·have hb' : decide ((b : Int) > 0) = true := by simp; omega
   simp only [spec_raCommon_b1, hb', if_true, guardO_bind_pos (show (b : Int) ≠ 0 by omega)]
   have : Int.tmod (a : Int) (b : Int) = ((a % b : Nat) : Int) := rfl
   rw [this, ih (a % b) (Nat.mod_lt _ (by omega)) b, toNat_gcd_step a b hb]
theorem impl_abs_eq (a : Int) (h : -9223372036854775808 < a) (h2 : a ≤ 9223372036854775807) : impl_abs a = some (a.natAbs : Int) := by
 unfold impl_abs
 by_cases ha : a < 0
 ·simp only [ha, decide_true, if_true]; rw [w64_id (by omega) (by omega)]; congr 1; omega
 ·simp only [ha, decide_false, Bool.false_eq_true, if_false]; congr 1; omega
theorem spec_l1Abs_eq (a : Int) (h : -9223372036854775808 < a) (h2 : a ≤ 9223372036854775807) : spec_l1Abs a = some (a.natAbs : Int) := by
 unfold spec_l1Abs spec_l1Most
 rw [w64_id (by omega) (by omega)]
 by_cases ha : a > 0 - a
 ·simp only [ha, decide_true, if_true, Option.bind_some]; congr 1; omega
 ·simp only [ha, decide_false, Bool.false_eq_true, if_false, Option.bind_some]; congr 1; omega
theorem impl_greatestDivisor_eq (a b : Int) (h : -9223372036854775808 < a) (h2 : a ≤ 9223372036854775807) (h3 : -9223372036854775808 < b) (h4 : b ≤ 9223372036854775807) :
  impl_greatestDivisor a b = some ((Int.gcd a b : Nat) : Int) := by
 simp only [impl_greatestDivisor, impl_abs_eq a h h2, impl_abs_eq b h3 h4, Option.bind_some, impl_gcd_loop, impl_greatestDivisor_k1]
 rfl
theorem spec_raCommon_eq (a b : Int) (h : 0 ≤ a) (h2 : 0 ≤ b) : spec_raCommon a b = some ((Int.gcd a b : Nat) : Int) := by
 obtain ⟨m, rfl⟩ := Int.eq_ofNat_of_zero_le h
 obtain ⟨n, rfl⟩ := Int.eq_ofNat_of_zero_le h2
 simp only [spec_raCommon]
 rw [spec_gcd_loop]
 rfl
def isRat (r : Int × Int) : Bool := inB 1 1000000000 r.2 && (inB (-1000000000) 1000000000 r.1 && (Int.gcd r.1 r.2 : Int) == 1)
theorem isRat_iff {r : Int × Int} : isRat r = true ↔ 1 ≤ r.2 ∧ r.2 ≤ 1000000000 ∧ -1000000000 ≤ r.1 ∧ r.1 ≤ 1000000000 ∧ Int.gcd r.1 r.2 = 1 := by
 simp only [isRat, Bool.and_eq_true, inB_iff, beq_iff_eq]
 constructor
 ·rintro ⟨⟨h1, h2⟩, ⟨h3, h4⟩, h5⟩; exact ⟨h1, h2, h3, h4, by omega⟩
 ·rintro ⟨h1, h2, h3, h4, h5⟩; exact ⟨⟨h1, h2⟩, ⟨h3, h4⟩, by omega⟩
theorem impl_isRat_eq (r : Int × Int) : impl_isRat r = some (isRat r) := by
 unfold impl_isRat isRat
 simp only [impl_within_eq, Option.bind_some]
 cases h1 : inB 1 1000000000 r.2
 ·rfl
 ·cases h2 : inB (-1000000000) 1000000000 r.1
  ·rfl
  ·have h1' := inB_iff.1 h1
   have h2' := inB_iff.1 h2
   simp only [if_true, impl_greatestDivisor_eq r.1 r.2 (by omega) (by omega) (by omega) (by omega), Option.bind_some, Bool.true_and]
theorem spec_raGood_eq (r : Int × Int) : spec_raGood r = some (isRat r) := by
 unfold spec_raGood isRat
 simp only [spec_l1In_eq, Option.bind_some]
 cases h1 : inB 1 1000000000 r.2
 ·rfl
 ·cases h2 : inB (-1000000000) 1000000000 r.1
  ·rfl
  ·have h1' := inB_iff.1 h1
   have h2' := inB_iff.1 h2
   simp only [if_true, spec_l1Abs_eq r.1 (by omega) (by omega), spec_raCommon_eq _ r.2 (Int.natCast_nonneg _) (by omega), Option.bind_some, Bool.true_and]
   rfl
theorem impl_areRats_eq (l : List (Int × Int)) (hl : l.length ≤ 4611686018427387904) : impl_areRats l = some (l.all isRat) := by
 have h := loop_any (xs := l) (body := impl_areRats_b1 l) (fun x => !isRat x) (fun i => (i : Int)) (.inl false) (.inr ()) (fun i x hx => by
  have hi := getElem?_lt hx
  simp only [impl_areRats_b1, idxO_nat, hx, impl_isRat_eq, Option.bind_some, w64_nat (show i < 9223372036854775807 by omega), show ((i : Int) < (l.length : Int)) from by omega, decide_true, if_true]
  cases isRat x <;> rfl) (by simp [impl_areRats_b1])
 unfold impl_areRats
 rw [show (0 : Int) = ((0 : Nat) : Int) from rfl, h, List.any_eq_not_all_not]
 simp only [Bool.not_not]
 cases l.all isRat <;> rfl
def lowest (n d : Int) : (Int × Int) × Bool :=
 let g := if d < 0 then -(Int.gcd n d : Int) else Int.gcd n d
 if isRat (Int.tdiv n g, Int.tdiv d g) then ((Int.tdiv n g, Int.tdiv d g), true) else ((0, 0), false)
theorem tdiv_w64 (n g : Int) (h : -9223372036854775808 < n) (h2 : n ≤ 9223372036854775807) (hg : g ≠ 0) : w64 (Int.tdiv n g) = Int.tdiv n g := by
 have h1 : (Int.tdiv n g).natAbs ≤ n.natAbs := by rw [Int.natAbs_tdiv]; exact Nat.div_le_self _ _
 exact w64_id (by omega) (by omega)
theorem impl_lowest_eq (n d : Int) (hd : d ≠ 0) (h : -9223372036854775808 < n) (h2 : n ≤ 9223372036854775807) (h3 : -9223372036854775808 < d) (h4 : d ≤ 9223372036854775807) : impl_lowest n d = some (lowest n d) := by
 have hg0 : Int.gcd n d ≠ 0 := by rw [Ne, Int.gcd_eq_zero_iff]; omega
 have hgl : (Int.gcd n d : Int) ≤ 9223372036854775807 := by
  have : Int.gcd n d ≤ d.natAbs := Nat.gcd_le_right _ (by omega)
  omega
 have key : ∀ g : Int, g ≠ 0 → impl_lowest_k1 n d g = some (if isRat (Int.tdiv n g, Int.tdiv d g) then ((Int.tdiv n g, Int.tdiv d g), true) else ((0, 0), false)) := fun g hg => by
  simp only [impl_lowest_k1, guardO_bind_pos hg, tdiv_w64 n g h h2 hg, tdiv_w64 d g h3 h4 hg, impl_isRat_eq, Option.bind_some]
  cases isRat (Int.tdiv n g, Int.tdiv d g) <;> rfl
 unfold impl_lowest lowest
 simp only [impl_greatestDivisor_eq n d h h2 h3 h4, Option.bind_some]
 by_cases hneg : d < 0
 ·simp only [hneg, decide_true, if_true]
  rw [show (0 : Int) - (Int.gcd n d : Int) = -(Int.gcd n d : Int) by omega, w64_id (by omega) (by omega), key _ (by omega)]
 ·simp only [hneg, decide_false, Bool.false_eq_true, if_false]
  rw [key _ (by omega)]
theorem mul_le_9 {a b : Int} (ha : -1000000000 ≤ a) (ha2 : a ≤ 1000000000) (hb : -1000000000 ≤ b) (hb2 : b ≤ 1000000000) : -1000000000000000000 ≤ a * b ∧ a * b ≤ 1000000000000000000 := by
 have h1 : (a * b).natAbs ≤ 1000000000 * 1000000000 := by
  rw [Int.natAbs_mul]; exact Nat.mul_le_mul (by omega) (by omega)
 omega
def near (r : Int × Int) : Bool := isRat r && inB (-1000 * r.2) (1000 * r.2) r.1
def cmp (a b : Int × Int) : Int := if a.1 * b.2 < b.1 * a.2 then -1 else if a.1 * b.2 > b.1 * a.2 then 1 else 0
def tame (r : Int × Int) : Prop := -1000000000 ≤ r.1 ∧ r.1 ≤ 1000000000 ∧ -1000000000 ≤ r.2 ∧ r.2 ≤ 1000000000
theorem tame_of {r : Int × Int} (h : isRat r = true) : tame r := by
 obtain ⟨h1, h2, h3, h4, _⟩ := isRat_iff.1 h
 exact ⟨h3, h4, by omega, h2⟩
theorem impl_compare_eq (a b : Int × Int) (ha : tame a) (hb : tame b) : impl_compare a b = some (cmp a b) := by
 obtain ⟨a1, a2, a3, a4⟩ := ha
 obtain ⟨b1, b2, b3, b4⟩ := hb
 have m1 := mul_le_9 a1 a2 b3 b4
 have m2 := mul_le_9 b1 b2 a3 a4
 unfold impl_compare cmp
 rw [w64_id (n := a.1 * b.2) (by omega) (by omega), w64_id (n := b.1 * a.2) (by omega) (by omega)]
 by_cases h1 : a.1 * b.2 < b.1 * a.2
 ·simp [h1]
 ·by_cases h2 : a.1 * b.2 > b.1 * a.2
  ·simp [h1, h2]
  ·simp [h1, h2]
def less (a b : Int × Int) : Bool := decide (a.1 * b.2 < b.1 * a.2)
theorem impl_less_eq (a b : Int × Int) (ha : tame a) (hb : tame b) : impl_less a b = some (less a b) := by
 unfold impl_less less
 rw [impl_compare_eq a b ha hb]
 unfold cmp
 by_cases h1 : a.1 * b.2 < b.1 * a.2
 ·simp [h1]
 ·by_cases h2 : a.1 * b.2 > b.1 * a.2
  ·simp [h1, h2]
  ·simp [h1, h2]
def floorDiv (n d : Int) : Int := if Int.tmod n d < 0 then Int.tdiv n d - 1 else Int.tdiv n d
theorem tdiv_bound (n d : Int) : (Int.tdiv n d).natAbs ≤ n.natAbs := by rw [Int.natAbs_tdiv]; exact Nat.div_le_self _ _
def reduceRat (r : Int × Int) : (Int × Int) × Bool := if near r then ((r.1 - floorDiv r.1 r.2 * r.2, r.2), true) else ((0, 0), false)
end Go.PV

set_option linter.all false
namespace Go.PV
abbrev Pt := (Int × Int) × (Int × Int)
def zP : Pt := ((0, 0), (0, 0))
theorem spec_raCmp_eq (a b : Int × Int) (ha : tame a) (hb : tame b) : spec_raCmp a b = some (cmp a b) := by
 obtain ⟨a1, a2, a3, a4⟩ := ha
 obtain ⟨b1, b2, b3, b4⟩ := hb
 have m1 := mul_le_9 a1 a2 b3 b4
 have m2 := mul_le_9 b1 b2 a3 a4
 unfold spec_raCmp spec_l1Sign cmp
 rw [w64_id (n := a.1 * b.2) (by omega) (by omega), w64_id (n := b.1 * a.2) (by omega) (by omega), w64_id (n := a.1 * b.2 - b.1 * a.2) (by omega) (by omega)]
 by_cases h1 : a.1 * b.2 < b.1 * a.2
 ·have : ¬ (a.1 * b.2 - b.1 * a.2 > 0) := by omega
  have h3 : a.1 * b.2 - b.1 * a.2 < 0 := by omega
  simp [h1, h3]; omega
 ·by_cases h2 : a.1 * b.2 > b.1 * a.2
  ·have : a.1 * b.2 - b.1 * a.2 > 0 := by omega
   simp [h1, h2, this]
  ·have h3 : ¬ (a.1 * b.2 - b.1 * a.2 > 0) := by omega
   have h4 : ¬ (a.1 * b.2 - b.1 * a.2 < 0) := by omega
   simp [h1, h2, h3, h4]
theorem cmp_gt (a b : Int × Int) : decide (cmp a b > 0) = less b a := by
 unfold cmp less
 by_cases h1 : a.1 * b.2 < b.1 * a.2
 ·have : ¬ b.1 * a.2 < a.1 * b.2 := by omega
  simp [h1, this]
 ·by_cases h2 : a.1 * b.2 > b.1 * a.2
  ·simp [h1, h2]
  ·have : ¬ b.1 * a.2 < a.1 * b.2 := by omega
   simp [h1, h2]
def isUnit (r : Int × Int) : Bool := isRat r && inB 0 r.2 r.1
def coord (r : Int × Int) : Bool := isUnit r && decide (r.2 ≤ 100)
theorem coord_rat {r : Int × Int} (h : coord r = true) : isRat r = true := by
 simp only [coord, isUnit, Bool.and_eq_true] at h
 exact h.1.1
def goodPt (p : Pt) : Bool := coord p.1 && (isRat p.2 && (decide (p.2.2 ≤ 100) && inB (-5 * p.2.2) (5 * p.2.2) p.2.1))
def stepPt (a b : Pt) : Bool := less a.1 b.1 && !less b.2 a.2
def steps (xs : List Pt) (n : Nat) : Prop := ∀ i a b, 0 < i → i < n → xs[i - 1]? = some a → xs[i]? = some b → stepPt a b = true
def ends (xs : List Pt) : Bool := match xs[0]?, xs[xs.length - 1]? with
 | some a, some b => (a.1 == (0, 1)) && ((b.1 == (1, 1)) && (b.2 == (a.2.1 + a.2.2, a.2.2)))
 | _, _ => false
open Classical in
noncomputable def isLift (xs : List Pt) : Bool := inB 2 12 xs.length && (decide (xs.all goodPt = true ∧ steps xs xs.length) && ends xs)
end Go.PV

/-
 Plain laws: numerals.
 Conditions: none.
-/
set_option linter.all false
namespace Go.PV
def decB (n : Nat) : ByteArray := ⟨(Lib.decDigits n).toArray⟩
theorem ba_app (a b : List UInt8) : (ByteArray.mk a.toArray) ++ (ByteArray.mk b.toArray) = ByteArray.mk (a ++ b).toArray := by
 apply ByteArray.ext
 rw [ByteArray.data_append]
 simp
theorem ba_size (a : List UInt8) : (ByteArray.mk a.toArray).size = a.length := by simp [ByteArray.size]
theorem dec_len (n : Nat) : (Lib.decDigits n).length ≤ n + 1 := by
 induction n using Nat.strongRecOn with
 | ind n ih =>
  unfold Lib.decDigits
  split
  ·simp
  ·rename_i h
   have := ih (n / 10) (by omega)
   simp only [List.length_append, List.length_singleton]
   omega
theorem byteB_digit {d : Nat} (hd : d < 10) : byteB (IntKind.wrap .u8 (w64 (48 + (d : Int)))) = ByteArray.mk [UInt8.ofNat (48 + d)].toArray := by
 have h : IntKind.wrap .u8 (w64 (48 + (d : Int))) = ((48 + d : Nat) : Int) := by
  rw [w64_id (by omega) (by omega)]
  simp [IntKind.wrap, IntKind.bits, IntKind.signed]
  omega
 rw [h]; rfl
theorem l1Num_step {rc : Int → Option ByteArray} {n : Nat} (hn : n ≤ 1000000000) (h : 10 ≤ n → rc ((n / 10 : Nat) : Int) = some (decB (n / 10))) : spec_l1Num_r rc (n : Int) = some (decB n) := by
 unfold spec_l1Num_r
 by_cases h1 : n < 10
 ·rw [if_pos (decide_eq_true (by omega)), byteB_digit h1]
  unfold decB Lib.decDigits
  rw [dif_pos h1]
 ·rw [if_neg (by simp; omega)]
  have e1 : Int.tdiv (n : Int) 10 = ((n / 10 : Nat) : Int) := by rw [Int.tdiv_eq_ediv_of_nonneg (by omega)]; omega
  have e2 : Int.tmod (n : Int) 10 = ((n % 10 : Nat) : Int) := by rw [Int.tmod_eq_emod_of_nonneg (by omega)]; omega
  have hd : n % 10 < 10 := Nat.mod_lt _ (by omega)
  have hl := dec_len (n / 10)
  rw [e1, e2, w64_id (n := ((n / 10 : Nat) : Int)) (by omega) (by omega), h (by omega), Option.bind_some, byteB_digit hd]
  have hs : (decB (n / 10)).size + (ByteArray.mk [UInt8.ofNat (48 + n % 10)].toArray).size ≤ 1099511627776 := by
   unfold decB; rw [ba_size, ba_size]; simp only [List.length_singleton]; omega
  rw [guardO_bind_pos hs]
  unfold decB
  rw [ba_app]
  conv => rhs; unfold Lib.decDigits
  rw [dif_neg h1]
theorem l1Num_all : ∀ (k n : Nat), n ≤ 1000000000 → n < k → spec_l1Num_f k (n : Int) = some (decB n)
 | 0, n, _, h => by omega
 | k + 1, n, hn, h => l1Num_step hn fun h10 => l1Num_all k (n / 10) (by omega) (by omega)
theorem l1Num_some : ∀ (k n : Nat) (r : ByteArray), n ≤ 1000000000 → spec_l1Num_f k (n : Int) = some r → r = decB n
 | 0, n, r, _, h => by cases h
 | k + 1, n, r, hn, h => by
  by_cases h10 : 10 ≤ n
  ·have h' : spec_l1Num_r (spec_l1Num_f k) (n : Int) = some r := h
   cases hq : spec_l1Num_f k ((n / 10 : Nat) : Int) with
   | none =>
    unfold spec_l1Num_r at h'
    have e1 : Int.tdiv (n : Int) 10 = ((n / 10 : Nat) : Int) := by rw [Int.tdiv_eq_ediv_of_nonneg (by omega)]; omega
    rw [if_neg (by simp; omega), e1, w64_id (n := ((n / 10 : Nat) : Int)) (by omega) (by omega), hq] at h'
    cases h'
   | some r' =>
    have := l1Num_some k (n / 10) r' (by omega) hq
    subst this
    have := l1Num_step (rc := spec_l1Num_f k) hn fun _ => hq
    rw [this] at h'
    exact (Option.some.inj h').symm
  ·have := l1Num_step (rc := spec_l1Num_f k) hn fun h => absurd h h10
   have h' : spec_l1Num_r (spec_l1Num_f k) (n : Int) = some r := h
   rw [this] at h'
   exact (Option.some.inj h').symm
theorem spec_l1Num_eq {n : Nat} (hn : n ≤ 1000000000) : spec_l1Num (n : Int) = some (decB n) := by
 unfold spec_l1Num
 exact fuelO_eq (n + 1) (l1Num_all (n + 1) n hn (by omega)) fun k r h => l1Num_some k n r hn h
theorem itoaB_size {n : Int} (h1 : -1000000000 ≤ n) (h2 : n ≤ 1000000000) : (itoaB n).size ≤ 1000000002 := by
 unfold itoaB Lib.itoa
 rw [ba_size]
 split
 ·have := dec_len n.natAbs; simp only [List.length_cons]; omega
 ·have := dec_len n.toNat; omega
theorem spec_l1Int_eq {n : Int} (h1 : -1000000000 ≤ n) (h2 : n ≤ 1000000000) : spec_l1Int n = some (itoaB n) := by
 unfold spec_l1Int
 by_cases h : n < 0
 ·obtain ⟨m, rfl⟩ : ∃ m : Nat, n = -(m : Int) := ⟨n.natAbs, by omega⟩
  have e : w64 (0 - -(m : Int)) = (m : Int) := by rw [w64_id (by omega) (by omega)]; omega
  rw [if_pos (decide_eq_true h), e, spec_l1Num_eq (by omega), Option.bind_some]
  have hl := dec_len m
  have hs : (ByteArray.mk #[45]).size + (decB m).size ≤ 1099511627776 := by
   unfold decB; rw [show (ByteArray.mk #[45]).size = 1 from rfl, ba_size]; omega
  rw [guardO_bind_pos hs]
  unfold itoaB Lib.itoa decB
  rw [if_pos h, show (ByteArray.mk #[45]) = ByteArray.mk [45].toArray from rfl, ba_app, show (-(m : Int)).natAbs = m by omega]
  rfl
 ·obtain ⟨m, rfl⟩ := Int.eq_ofNat_of_zero_le (show 0 ≤ n by omega)
  rw [if_neg (by simpa using h), spec_l1Num_eq (by omega), Option.bind_some]
  unfold itoaB Lib.itoa decB
  rw [if_neg h, Int.toNat_natCast]
theorem strconv_Itoa_eq {n : Int} (h1 : -1000000000 ≤ n) (h2 : n ≤ 1000000000) : strconv_Itoa n = some (itoaB n) := by
 unfold strconv_Itoa
 rw [guardO_bind_pos ⟨by omega, by omega⟩]
def ratB (r : Int × Int) : ByteArray := itoaB r.1 ++ ByteArray.mk #[47] ++ itoaB r.2
theorem both_ratText {r : Int × Int} (h : isRat r = true) : spec_raText r = some (ratB r) ∧ impl_ratText r = some (ratB r) ∧ (ratB r).size ≤ 3000000000 := by
 obtain ⟨r1, r2, r3, r4, _⟩ := isRat_iff.1 h
 have a := itoaB_size (n := r.1) (by omega) (by omega)
 have b := itoaB_size (n := r.2) (by omega) (by omega)
 have c : (ByteArray.mk #[47]).size = 1 := rfl
 have g1 : (itoaB r.1).size + (ByteArray.mk #[47]).size ≤ 1099511627776 := by omega
 have g2 : (itoaB r.1 ++ ByteArray.mk #[47]).size + (itoaB r.2).size ≤ 1099511627776 := by rw [ByteArray.size_append]; omega
 have hnum : spec_l1Num r.2 = some (itoaB r.2) := by
  obtain ⟨m, hm⟩ := Int.eq_ofNat_of_zero_le (show 0 ≤ r.2 by omega)
  rw [hm, spec_l1Num_eq (by omega)]
  unfold itoaB Lib.itoa decB
  rw [if_neg (by omega), Int.toNat_natCast]
 refine ⟨?_, ?_, ?_⟩
 ·unfold spec_raText
  rw [spec_l1Int_eq (by omega) (by omega), Option.bind_some, guardO_bind_pos g1, hnum, Option.bind_some, guardO_bind_pos g2]
  rfl
 ·unfold impl_ratText
  rw [strconv_Itoa_eq (by omega) (by omega), Option.bind_some, guardO_bind_pos g1, strconv_Itoa_eq (by omega) (by omega), Option.bind_some, guardO_bind_pos g2]
  rfl
 ·unfold ratB
  rw [ByteArray.size_append, ByteArray.size_append]; omega
theorem both_BoundsText (a b : Int × Int) : ∃ r, spec_BoundsText a b = some r ∧ impl_BoundsText a b = some r := by
 unfold spec_BoundsText impl_BoundsText
 rw [impl_areRats_eq _ (by simp)]
 cases ha : isRat a
 ·refine ⟨(ByteArray.empty, false), ?_, ?_⟩
  ·simp [spec_raGood_eq, ha]
  ·simp [ha]
 ·cases hb : isRat b
  ·refine ⟨(ByteArray.empty, false), ?_, ?_⟩
   ·simp [spec_raGood_eq, ha, hb]
   ·simp [ha, hb]
  ·obtain ⟨s1, i1, z1⟩ := both_ratText ha
   obtain ⟨s2, i2, z2⟩ := both_ratText hb
   have c : (ByteArray.mk #[46, 46]).size = 2 := rfl
   have g1 : (ratB a).size + (ByteArray.mk #[46, 46]).size ≤ 1099511627776 := by omega
   have g2 : (ratB a ++ ByteArray.mk #[46, 46]).size + (ratB b).size ≤ 1099511627776 := by rw [ByteArray.size_append]; omega
   have hall : ([a, b] : List (Int × Int)).all isRat = true := by simp [ha, hb]
   simp only [spec_raGood_eq, ha, hb, hall, Option.bind_some, Bool.not_true, Bool.false_eq_true, if_false, spec_raCmp_eq a b (tame_of ha) (tame_of hb), cmp_gt, impl_less_eq b a (tame_of hb) (tame_of ha)]
   cases hl : less b a
   ·simp only [Bool.false_eq_true, if_false, s1, s2, i1, i2, Option.bind_some, guardO_bind_pos g1, guardO_bind_pos g2]
    exact ⟨_, rfl, rfl⟩
   ·exact ⟨_, rfl, rfl⟩
end Go.PV

/-
 Plain laws: lists and tables by their places.
 Conditions: none.
-/
namespace Go.PV
section
variable {α β : Type}
def tab (n : Nat) (f : Nat → α) : List α := (List.range n).map f
theorem tab_len (n : Nat) (f : Nat → α) : (tab n f).length = n := by simp [tab]
theorem tab_get {n i : Nat} {f : Nat → α} (h : i < n) : (tab n f)[i]? = some (f i) := by simp [tab, h]
theorem tab_get_none {n i : Nat} {f : Nat → α} (h : n ≤ i) : (tab n f)[i]? = none := by simp [tab, h]
theorem idxO_tab {n i : Nat} {f : Nat → α} (h : i < n) : idxO (tab n f) (i : Int) = some (f i) := by rw [idxO_nat, tab_get h]
theorem tab_ext {n : Nat} {f g : Nat → α} (h : ∀ i, i < n → f i = g i) : tab n f = tab n g := List.map_congr_left fun i hi => h i (List.mem_range.1 hi)
theorem tab_set {n i : Nat} {f : Nat → α} {v : α} (h : i < n) : (tab n f).set i v = tab n (fun k => if k = i then v else f k) := by
 apply List.ext_getElem?
 intro j
 rw [List.getElem?_set]
 by_cases hij : i = j
 ·subst hij
  rw [if_pos rfl, if_pos (by rw [tab_len]; exact h), tab_get h, if_pos rfl]
 ·rw [if_neg hij]
  by_cases hj : j < n
  ·rw [tab_get hj, tab_get hj, if_neg (Ne.symm hij)]
  ·rw [tab_get_none (by omega), tab_get_none (by omega)]
theorem rep_tab (n : Nat) (v : α) : List.replicate n v = tab n (fun _ => v) := by
 apply List.ext_getElem?
 intro j
 by_cases hj : j < n
 ·rw [tab_get hj]; simp [hj]
 ·rw [tab_get_none (by omega)]; simp [hj]
theorem tab_succ (n : Nat) (f : Nat → α) : tab n f ++ [f n] = tab (n + 1) f := by simp [tab, List.range_succ]
theorem tab_zero (f : Nat → α) : tab 0 f = [] := rfl
theorem tab_eta [Inhabited α] (xs : List α) : xs = tab xs.length (fun i => xs.getD i default) := by
 apply List.ext_getElem?
 intro j
 by_cases hj : j < xs.length
 ·rw [tab_get hj]; simp [hj]
 ·rw [tab_get_none (by omega)]; simp; omega
theorem tab_mem {n : Nat} {f : Nat → α} {x : α} : x ∈ tab n f ↔ ∃ i, i < n ∧ f i = x := by simp [tab]
theorem tab_all {n : Nat} {f : Nat → α} {p : α → Bool} : (tab n f).all p = true ↔ ∀ i, i < n → p (f i) = true := by simp [tab]
def mat (n m : Nat) (f : Nat → Nat → α) : List (List α) := tab n fun i => tab m (f i)
theorem mat_ext {n m : Nat} {f g : Nat → Nat → α} (h : ∀ i j, i < n → j < m → f i j = g i j) : mat n m f = mat n m g := tab_ext fun i hi => tab_ext fun j hj => h i j hi hj
theorem mat_set2 {n m i j : Nat} {f : Nat → Nat → α} {r : Nat → α} {v : α} (hi : i < n) (hj : j < m) : (mat n m f).set i ((tab m r).set j v) = mat n m (fun a b => if a = i then (if b = j then v else r b) else f a b) := by
 unfold mat
 rw [tab_set hi, tab_set hj]
 refine tab_ext fun a _ => ?_
 by_cases ha : a = i
 ·subst ha; simp
 ·rw [if_neg ha]; exact tab_ext fun b _ => by simp [ha]
theorem mat_len (n m : Nat) (f : Nat → Nat → α) : (mat n m f).length = n := tab_len _ _
theorem idxO_mat {n m i : Nat} {f : Nat → Nat → α} (h : i < n) : idxO (mat n m f) (i : Int) = some (tab m (f i)) := idxO_tab h
def foldN (n : Nat) (g : β → Nat → β) (s : β) : β := (List.range n).foldl g s
theorem foldN_succ (n : Nat) (g : β → Nat → β) (s : β) : foldN (n + 1) g s = g (foldN n g s) n := by simp [foldN, List.range_succ]
theorem foldN_zero (g : β → Nat → β) (s : β) : foldN 0 g s = s := rfl
theorem foldN_ext {n : Nat} {g h : β → Nat → β} {s : β} (H : ∀ b i, i < n → g b i = h b i) : foldN n g s = foldN n h s := by
 induction n with
 | zero => rfl
 | succ n ih => rw [foldN_succ, foldN_succ, ih fun b i hi => H b i (by omega), H _ _ (by omega)]
end
end Go.PV

/-
 Plain laws: graphs, numbers of walks.
 Conditions: none.
-/
namespace Go.PV
def sized (g : List (List Int)) : Prop := g.length ≤ 1048576 ∧ ∀ row ∈ g, row.length ≤ 1048576
def isGraph (g : List (List Int)) : Bool := inB 1 8 g.length && g.all fun row => (row.length : Int) == g.length && row.all (inB 0 9)
theorem contains_LL (xs : List (List Int)) (f : List Int → Option Bool) (p : List Int → Bool) (hf : ∀ x ∈ xs, f x = some (p x)) (hl : xs.length ≤ 4611686018427387904) : slices_ContainsFunc_LLint_Lint xs f = some (xs.any p) := by
 have h := loop_first (xs := xs) (body := slices_IndexFunc_LLint_Lint_b1 xs f) p (fun i => (i : Int)) (fun i => .inl (i : Int)) (.inr ()) (fun i x hx => by
  have hi := getElem?_lt hx
  simp only [slices_IndexFunc_LLint_Lint_b1, idxO_nat, hx, hf x (List.mem_of_getElem? hx), Option.bind_some, w64_nat (show i < 9223372036854775807 by omega), show ((i : Int) < (xs.length : Int)) from by omega, decide_true, if_true]
  cases p x <;> rfl) (by simp [slices_IndexFunc_LLint_Lint_b1])
 unfold slices_ContainsFunc_LLint_Lint slices_IndexFunc_LLint_Lint
 rw [show (0 : Int) = ((0 : Nat) : Int) from rfl, h]
 cases hx : xs.findIdx? p with
 | none =>
  have hn := List.findIdx?_eq_none_iff.1 hx
  have : xs.any p = false := by simpa using hn
  simp [this, slices_IndexFunc_LLint_Lint_k1]
 | some m =>
  obtain ⟨hm, hp, _⟩ := List.findIdx?_eq_some_iff_getElem.1 hx
  have : xs.any p = true := by simp; exact ⟨xs[m], List.getElem_mem hm, hp⟩
  simp [this]
theorem impl_isGraph_1_1_eq (x : Int) : impl_isGraph_1_1 x = some (!inB 0 9 x) := by simp [impl_isGraph_1_1, impl_within_eq]
theorem impl_isGraph_1_eq (row : List Int) (g : List (List Int)) (hl : row.length ≤ 4611686018427387904) : impl_isGraph_1 row g = some (!((row.length : Int) == g.length && row.all (inB 0 9))) := by
 unfold impl_isGraph_1
 rw [slices_ContainsFunc_Lint_int_eq row (fun x0 => impl_isGraph_1_1 x0) _ impl_isGraph_1_1_eq hl]
 by_cases hc : (row.length : Int) = g.length
 ·simp [hc, List.any_eq_not_all_not]
 ·simp [hc]
theorem impl_isGraph_eq (g : List (List Int)) (h : sized g) : impl_isGraph g = some (isGraph g) := by
 obtain ⟨hl, hr⟩ := h
 unfold impl_isGraph
 rw [impl_within_eq, Option.bind_some, contains_LL g (fun x0 => impl_isGraph_1 x0 g) _ (fun x hx => impl_isGraph_1_eq x g (by have := hr x hx; omega)) (by omega)]
 simp only [Option.bind_some, isGraph, List.any_eq_not_all_not, Bool.not_not]
 cases inB 1 8 g.length <;> rfl
theorem spec_grGood_eq (g : List (List Int)) (h : sized g) : spec_grGood g = some (isGraph g) := by
 obtain ⟨hl, hr⟩ := h
 have hx := loop_any (xs := g) (body := spec_grGood_b1 g) (fun row => !((row.length : Int) == g.length && row.all (inB 0 9))) (fun i => (i : Int)) (.inl false) (.inr ()) (fun i x hx => by
  have hi := getElem?_lt hx
  have hlx := hr x (List.mem_of_getElem? hx)
  simp only [spec_grGood_b1, idxO_nat, hx, Option.bind_some, spec_l1All_eq x 0 9 (by omega), w64_nat (show i < 9223372036854775807 by omega), show ((i : Int) < (g.length : Int)) from by omega, decide_true, if_true, bne]
  cases (x.length : Int) == g.length
  ·rfl
  ·cases x.all (inB 0 9) <;> rfl) (by simp [spec_grGood_b1])
 unfold spec_grGood isGraph
 rw [spec_l1In_eq, Option.bind_some, show (0 : Int) = ((0 : Nat) : Int) from rfl, hx, List.any_eq_not_all_not]
 simp only [Bool.not_not]
 cases inB 1 8 g.length
 ·rfl
 ·simp only [Bool.not_true, Bool.false_eq_true, if_false, Bool.true_and, Option.bind_some]
  cases (g.all fun row => (row.length : Int) == g.length && row.all (inB 0 9)) <;> rfl
theorem isGraph_mat {g : List (List Int)} (h : isGraph g = true) : ∃ (n : Nat) (G : Nat → Nat → Int), 1 ≤ n ∧ n ≤ 8 ∧ g = mat n n G ∧ ∀ i j, i < n → j < n → 0 ≤ G i j ∧ G i j ≤ 9 := by
 simp only [isGraph, Bool.and_eq_true, inB_iff, List.all_eq_true, beq_iff_eq] at h
 obtain ⟨⟨h1, h2⟩, h3⟩ := h
 refine ⟨g.length, fun i j => (g.getD i []).getD j 0, by omega, by omega, ?_, fun i j hi hj => ?_⟩
 ·refine (tab_eta g).trans (tab_ext fun i hi => ?_)
  have hlen := (h3 g[i] (List.getElem_mem hi)).1
  have e : g.getD i default = g[i] := by simp [hi]
  have e2 : g.getD i [] = g[i] := by simp [hi]
  rw [e]
  show g[i] = tab g.length (fun j => (g.getD i []).getD j 0)
  rw [e2]
  refine (tab_eta g[i]).trans ?_
  rw [show g[i].length = g.length by omega]
  rfl
 ·have hrow := h3 g[i] (List.getElem_mem hi)
  have e : g.getD i [] = g[i] := by simp [hi]
  have hj' : j < g[i].length := by omega
  have e2 : g[i].getD j 0 = g[i][j] := by simp [hj']
  simp only [e, e2]
  exact hrow.2 _ (List.getElem_mem hj')
end Go.PV

/-
 Plain laws: marks on lists, and that they are held.
 Conditions: none.
-/
set_option linter.all false
namespace Go.PV
section
variable {α : Type}
def marks (w : Nat) (f : Int → α) (n : Nat) (k : Int) : List α := tab n fun i => f (k + (w : Int) * i)
end
def markI (n : Nat) (k : Int) : List Int := marks 1 (fun c => c) n k
def markR (n : Nat) (k : Int) : List (Int × Int) := marks 2 (fun c => (c, c + 1)) n k
end Go.PV

/-
 Plain laws: powers of graphs' tables, numbers of all walks.
 Conditions: none.
-/
namespace Go.PV
def capMul (most acc w a : Int) : Int := if most < w64 (acc + w64 (w * a)) then most else w64 (acc + w64 (w * a))
def powStep (n : Nat) (G : Nat → Nat → Int) (most : Int) (F : Nat → Nat → Int) : Nat → Nat → Int := fun i j => foldN n (fun acc k => capMul most acc (F i k) (G k j)) 0
def idM : Nat → Nat → Int := fun i j => if i = j then 1 else 0
def powN (n : Nat) (G : Nat → Nat → Int) (most : Int) : Nat → Nat → Nat → Int
 | 0 => idM
 | m + 1 => powStep n G most (powN n G most m)
theorem impl_emptyGraph_eq (n : Nat) (hn : n ≤ 1048576) : impl_emptyGraph (n : Int) = some (mat n n fun _ _ => 0) := by
 have hx := loop_idx (body := impl_emptyGraph_b1 (n : Int)) n (fun i => (tab n (fun a => if a < i then tab n (fun _ => (0 : Int)) else []), (i : Int))) (mat n n fun _ _ => 0) (fun i hi => by
  simp only [impl_emptyGraph_b1, Int.toNat_natCast, List.length_replicate, idxO_tab hi, Option.bind_some, w64_nat (show i < 9223372036854775807 by omega), show ((i : Int) < (n : Int)) from by omega, decide_true, if_true]
  rw [tab_set hi, rep_tab]
  congr 3
  refine tab_ext fun a _ => ?_
  by_cases h1 : a = i
  ·subst h1; simp
  ·by_cases h2 : a < i
   ·simp [h1, h2, show a < i + 1 by omega]
   ·simp [h1, h2, show ¬ a < i + 1 by omega]) (by
  simp only [impl_emptyGraph_b1, Int.toNat_natCast, List.length_replicate, Int.lt_irrefl, decide_false, Bool.false_eq_true, if_false]
  congr 2
  exact tab_ext fun a ha => by simp [ha])
 unfold impl_emptyGraph
 rw [guardO_bind_pos (by omega), Int.toNat_natCast, rep_tab]
 simp only [Nat.not_lt_zero, if_false] at hx
 rw [show (0 : Int) = ((0 : Nat) : Int) from rfl, hx]
 rfl
section impl
variable {n : Nat} {G : Nat → Nat → Int} {most : Int}
theorem impl_b4 (hn : n ≤ 8) {i k : Nat} (hi : i < n) (N : Nat → Nat → Int) (X : List (List Int)) (w : Int) :
  loopO (impl_powerUpTo_b4 most (X, (i : Int)) w (tab n (G k))) (mat n n N, 0) = some (mat n n (fun a b => if a = i then capMul most (N a b) w (G k b) else N a b)) := by
 have hx := loop_idx (body := impl_powerUpTo_b4 most (X, (i : Int)) w (tab n (G k))) n (fun j => (mat n n (fun a b => if a = i ∧ b < j then capMul most (N a b) w (G k b) else N a b), (j : Int))) (mat n n (fun a b => if a = i then capMul most (N a b) w (G k b) else N a b)) (fun j hj => by
  simp only [impl_powerUpTo_b4, tab_len, idxO_tab hj, idxO_mat hi, Option.bind_some, w64_nat (show j < 9223372036854775807 by omega), show ((j : Int) < (n : Int)) from by omega, decide_true, if_true, Int.toNat_natCast]
  rw [mat_set2 hi hj]
  congr 3
  refine mat_ext fun a b _ _ => ?_
  by_cases ha : a = i
  ·subst ha
   by_cases hb : b = j
   ·subst hb; simp [capMul]
   ·by_cases h2 : b < j
    ·simp [hb, h2, show b < j + 1 by omega]
    ·simp [hb, h2, show ¬ b < j + 1 by omega]
  ·simp [ha]) (by
  simp only [impl_powerUpTo_b4, tab_len, Int.lt_irrefl, decide_false, Bool.false_eq_true, if_false]
  congr 2
  exact mat_ext fun a b _ hb => by simp [hb])
 simpa using hx
theorem impl_b3 (hn : n ≤ 8) {i : Nat} (hi : i < n) (N : Nat → Nat → Int) (X : List (List Int)) (w : Nat → Int) :
  loopO (impl_powerUpTo_b3 (mat n n G) most (X, (i : Int)) (tab n w)) (mat n n N, 0) = some (mat n n (fun a b => if a = i then foldN n (fun acc k => capMul most acc (w k) (G k b)) (N a b) else N a b)) := by
 have hx := loop_idx (body := impl_powerUpTo_b3 (mat n n G) most (X, (i : Int)) (tab n w)) n (fun k => (mat n n (fun a b => if a = i then foldN k (fun acc k => capMul most acc (w k) (G k b)) (N a b) else N a b), (k : Int))) (mat n n (fun a b => if a = i then foldN n (fun acc k => capMul most acc (w k) (G k b)) (N a b) else N a b)) (fun k hk => by
  simp only [impl_powerUpTo_b3, tab_len, idxO_tab hk, idxO_mat hk, Option.bind_some, impl_b4 hn hi, impl_powerUpTo_k6, w64_nat (show k < 9223372036854775807 by omega), show ((k : Int) < (n : Int)) from by omega, decide_true, if_true]
  congr 3
  refine mat_ext fun a b _ _ => ?_
  by_cases ha : a = i
  ·subst ha; simp [foldN_succ]
  ·simp [ha]) (by simp only [impl_powerUpTo_b3, tab_len, Int.lt_irrefl, decide_false, Bool.false_eq_true, if_false])
 simp only [foldN_zero] at hx
 rw [show (fun a b => if a = i then N a b else N a b) = N from by funext a b; split <;> rfl] at hx
 simpa using hx
theorem impl_b2 (hn : n ≤ 8) (F : Nat → Nat → Int) (t : Int) :
  loopO (impl_powerUpTo_b2 (mat n n G) most (mat n n F, t)) (mat n n (fun _ _ => 0), 0) = some (mat n n (powStep n G most F)) := by
 have hx := loop_idx (body := impl_powerUpTo_b2 (mat n n G) most (mat n n F, t)) n (fun i => (mat n n (fun a b => if a < i then powStep n G most F a b else 0), (i : Int))) (mat n n (powStep n G most F)) (fun i hi => by
  simp only [impl_powerUpTo_b2, mat_len, idxO_mat hi, Option.bind_some, impl_b3 hn hi, impl_powerUpTo_k5, w64_nat (show i < 9223372036854775807 by omega), show ((i : Int) < (n : Int)) from by omega, decide_true, if_true]
  congr 3
  refine mat_ext fun a b _ _ => ?_
  by_cases ha : a = i
  ·subst ha; simp [powStep]
  ·by_cases h2 : a < i
   ·simp [ha, h2, show a < i + 1 by omega]
   ·simp [ha, h2, show ¬ a < i + 1 by omega]) (by
  simp only [impl_powerUpTo_b2, mat_len, Int.lt_irrefl, decide_false, Bool.false_eq_true, if_false]
  congr 2
  exact mat_ext fun a b ha _ => by simp [ha])
 simpa using hx
theorem impl_b1 (hn : n ≤ 8) (m : Nat) (hm : m ≤ 1048576) : loopO (impl_powerUpTo_b1 (mat n n G) (m : Int) most) (mat n n idM, 0) = some (mat n n (powN n G most m)) := by
 have hx := loop_idx (body := impl_powerUpTo_b1 (mat n n G) (m : Int) most) m (fun t => (mat n n (powN n G most t), (t : Int))) (mat n n (powN n G most m)) (fun t ht => by
  simp only [impl_powerUpTo_b1, mat_len, impl_emptyGraph_eq n (by omega), impl_b2 hn, Option.bind_some, impl_powerUpTo_k4, impl_powerUpTo_k3, w64_nat (show t < 9223372036854775807 by omega), show ((t : Int) < (m : Int)) from by omega, decide_true, if_true]
  rfl) (by simp only [impl_powerUpTo_b1, Int.lt_irrefl, decide_false, Bool.false_eq_true, if_false])
 exact hx
theorem impl_powerUpTo_eq (hn : n ≤ 8) (m : Nat) (hm : m ≤ 1048576) : impl_powerUpTo (mat n n G) (m : Int) most = some (mat n n (powN n G most m)) := by
 have hx := loop_idx (body := impl_powerUpTo_b5 (mat n n fun _ _ => 0)) n (fun i => (mat n n (fun a b => if a < i then idM a b else 0), (i : Int))) (mat n n idM) (fun i hi => by
  simp only [impl_powerUpTo_b5, mat_len, idxO_mat hi, idxO_tab hi, Option.bind_some, w64_nat (show i < 9223372036854775807 by omega), show ((i : Int) < (n : Int)) from by omega, decide_true, if_true, Int.toNat_natCast]
  rw [mat_set2 hi hi]
  congr 3
  refine mat_ext fun a b _ _ => ?_
  by_cases ha : a = i
  ·subst ha
   by_cases hb : b = a
   ·subst hb; simp [idM]
   ·simp [hb, idM, Ne.symm hb]
  ·by_cases h2 : a < i
   ·simp [ha, h2, show a < i + 1 by omega]
   ·simp [ha, h2, show ¬ a < i + 1 by omega]) (by
  simp only [impl_powerUpTo_b5, mat_len, Int.lt_irrefl, decide_false, Bool.false_eq_true, if_false]
  congr 2
  exact mat_ext fun a b ha _ => by simp [ha])
 unfold impl_powerUpTo
 rw [mat_len, impl_emptyGraph_eq n (by omega), Option.bind_some]
 simp only [Nat.not_lt_zero, if_false] at hx
 rw [show (0 : Int) = ((0 : Nat) : Int) from rfl, show (fun (_ _ : Nat) => ((0 : Nat) : Int)) = fun _ _ => (0 : Int) from rfl, hx, Option.bind_some, impl_powerUpTo_k1, impl_b1 hn m hm]
 rfl
end impl
section spec
variable {n : Nat} {G : Nat → Nat → Int}
theorem spec_grCap_eq (v : Int) : spec_grCap v = some (if (1000000001 : Int) < v then 1000000001 else v) := by
 unfold spec_grCap spec_l1Least
 by_cases h : v < 1000000001
 ·simp [h, show ¬ (1000000001 : Int) < v by omega]
 ·by_cases h2 : (1000000001 : Int) < v
  ·simp [h, h2]
  ·have : v = 1000000001 := by omega
   subst this; simp
theorem spec_b4 (hn : n ≤ 8) {i j : Nat} (hi : i < n) (hj : j < n) (F : Nat → Nat → Int) (t : Int) (Y : List (List Int)) (Z : List Int) (R : Nat → Int) :
  loopO (spec_grPower_b4 (mat n n G) (t, mat n n F) (Y, (i : Int)) (Z, (j : Int))) (tab n R, 0) = some (tab n (fun b => if b = j then foldN n (fun acc k => capMul 1000000001 acc (F i k) (G k j)) (R b) else R b)) := by
 have hx := loop_idx (body := spec_grPower_b4 (mat n n G) (t, mat n n F) (Y, (i : Int)) (Z, (j : Int))) n (fun l => (tab n (fun b => if b = j then foldN l (fun acc k => capMul 1000000001 acc (F i k) (G k j)) (R b) else R b), (l : Int))) (tab n (fun b => if b = j then foldN n (fun acc k => capMul 1000000001 acc (F i k) (G k j)) (R b) else R b)) (fun l hl => by
  simp only [spec_grPower_b4, mat_len, idxO_tab hj, idxO_mat hi, idxO_mat hl, idxO_tab hl, Option.bind_some, spec_grCap_eq, w64_nat (show l < 9223372036854775807 by omega), show ((l : Int) < (n : Int)) from by omega, decide_true, if_true, Int.toNat_natCast]
  rw [tab_set hj]
  congr 3
  refine tab_ext fun b _ => ?_
  by_cases hb : b = j
  ·subst hb; simp only [if_true, foldN_succ]; rfl
  ·simp [hb]) (by simp only [spec_grPower_b4, mat_len, Int.lt_irrefl, decide_false, Bool.false_eq_true, if_false])
 simp only [foldN_zero] at hx
 rw [show (fun b => if b = j then R b else R b) = R from by funext b; split <;> rfl] at hx
 simpa using hx
theorem spec_b3 (hn : n ≤ 8) {i : Nat} (hi : i < n) (F : Nat → Nat → Int) (t : Int) (Y : List (List Int)) :
  loopO (spec_grPower_b3 (mat n n G) (t, mat n n F) (Y, (i : Int))) (tab n (fun _ => 0), 0) = some (tab n (powStep n G 1000000001 F i)) := by
 have hx := loop_idx (body := spec_grPower_b3 (mat n n G) (t, mat n n F) (Y, (i : Int))) n (fun j => (tab n (fun b => if b < j then powStep n G 1000000001 F i b else 0), (j : Int))) (tab n (powStep n G 1000000001 F i)) (fun j hj => by
  simp only [spec_grPower_b3, mat_len, spec_b4 hn hi hj, Option.bind_some, spec_grPower_k7, w64_nat (show j < 9223372036854775807 by omega), show ((j : Int) < (n : Int)) from by omega, decide_true, if_true]
  congr 3
  refine tab_ext fun b _ => ?_
  by_cases hb : b = j
  ·subst hb; simp [powStep]
  ·by_cases h2 : b < j
   ·simp [hb, h2, show b < j + 1 by omega]
   ·simp [hb, h2, show ¬ b < j + 1 by omega]) (by
  simp only [spec_grPower_b3, mat_len, Int.lt_irrefl, decide_false, Bool.false_eq_true, if_false]
  congr 2
  exact tab_ext fun b hb => by simp [hb])
 simpa using hx
theorem spec_b2 (hn : n ≤ 8) (F : Nat → Nat → Int) (t : Int) : loopO (spec_grPower_b2 (mat n n G) (t, mat n n F)) ([], 0) = some (mat n n (powStep n G 1000000001 F)) := by
 have hx := loop_idx (body := spec_grPower_b2 (mat n n G) (t, mat n n F)) n (fun i => (tab i (fun a => tab n (powStep n G 1000000001 F a)), (i : Int))) (mat n n (powStep n G 1000000001 F)) (fun i hi => by
  simp only [spec_grPower_b2, mat_len, show ((i : Int) < (n : Int)) from by omega, decide_true, if_true]
  rw [guardO_bind_pos (by omega), Int.toNat_natCast, rep_tab, spec_b3 hn hi, Option.bind_some, spec_grPower_k6, guardO_bind_pos (by simp [tab_len]; omega), spec_grPower_k5]
  simp only [w64_nat (show i < 9223372036854775807 by omega)]
  rw [tab_succ i (fun a => tab n (powStep n G 1000000001 F a))]) (by simp only [spec_grPower_b2, mat_len, Int.lt_irrefl, decide_false, Bool.false_eq_true, if_false]; rfl)
 simpa [tab_zero] using hx
theorem spec_b1 (hn : n ≤ 8) (m : Nat) (hm : m ≤ 1048576) : loopO (spec_grPower_b1 (mat n n G)) ((m : Int), mat n n idM) = some (mat n n (powN n G 1000000001 m)) := by
 have hx := loop_idx (body := spec_grPower_b1 (mat n n G)) m (fun t => (((m - t : Nat) : Int), mat n n (powN n G 1000000001 t))) (mat n n (powN n G 1000000001 m)) (fun t ht => by
  simp only [spec_grPower_b1, show (((m - t : Nat) : Int) > 0) from by omega, decide_true, if_true, spec_b2 hn, Option.bind_some, spec_grPower_k4, spec_grPower_k3]
  rw [w64_id (by omega) (by omega), show ((m - t : Nat) : Int) - 1 = ((m - (t + 1) : Nat) : Int) by omega]
  rfl) (by simp [spec_grPower_b1])
 simpa [powN] using hx
theorem spec_grPower_eq (hn : n ≤ 8) (m : Nat) (hm : m ≤ 1048576) : spec_grPower (mat n n G) (m : Int) = some (mat n n (powN n G 1000000001 m)) := by
 have hx := loop_idx (body := spec_grPower_b5 (mat n n G)) n (fun i => (tab i (fun a => tab n (idM a)), (i : Int))) (mat n n idM) (fun i hi => by
  simp only [spec_grPower_b5, mat_len, show ((i : Int) < (n : Int)) from by omega, decide_true, if_true]
  rw [guardO_bind_pos (by omega), guardO_bind_pos (by simp [tab_len]; omega), Int.toNat_natCast, Int.toNat_natCast, rep_tab]
  have e : tab i (fun a => tab n (idM a)) ++ [tab n fun _ => (0 : Int)] = tab (i + 1) (fun a => if a < i then tab n (idM a) else tab n fun _ => 0) := by
   rw [← tab_succ]
   simp only [Nat.lt_irrefl, if_false]
   congr 1
   exact tab_ext fun a ha => by simp [ha]
  rw [e, idxO_tab (Nat.lt_succ_self i), Option.bind_some]
  simp only [Nat.lt_irrefl, if_false, idxO_tab hi, Option.bind_some, w64_nat (show i < 9223372036854775807 by omega)]
  rw [tab_set (Nat.lt_succ_self i), tab_set hi]
  congr 3
  refine tab_ext fun a ha => ?_
  by_cases h1 : a = i
  ·subst h1
   simp only [if_true]
   exact tab_ext fun b _ => by simp [idM, eq_comm]
  ·simp [h1, show a < i by omega]) (by simp only [spec_grPower_b5, mat_len, Int.lt_irrefl, decide_false, Bool.false_eq_true, if_false]; rfl)
 unfold spec_grPower
 simp only [tab_zero] at hx
 rw [show (0 : Int) = ((0 : Nat) : Int) from rfl, hx, Option.bind_some, spec_grPower_k1, spec_b1 hn m hm]
 rfl
end spec
theorem capMul_range {most acc w a : Int} (hm : 0 ≤ most) (hm2 : most ≤ 1000000000000000000) (h1 : 0 ≤ acc) (h2 : acc ≤ most) (h3 : 0 ≤ w) (h4 : w ≤ most) (h5 : 0 ≤ a) (h6 : a ≤ 9) (hs : most ≤ 100000000000000000 ∨ w * a ≤ 8000000000000000000) : 0 ≤ capMul most acc w a ∧ capMul most acc w a ≤ most := by
 have hwa : 0 ≤ w * a := Int.mul_nonneg h3 h5
 have hwa2 : w * a ≤ w * 9 := Int.mul_le_mul_of_nonneg_left h6 h3
 have : w * a ≤ 8000000000000000000 := by rcases hs with h | h <;> omega
 unfold capMul
 rw [w64_id (n := w * a) (by omega) (by omega), w64_id (n := acc + w * a) (by omega) (by omega)]
 split <;> omega
theorem foldN_inv {β : Type} {g : β → Nat → β} {s : β} {n : Nat} (I : β → Prop) (h0 : I s) (hs : ∀ b i, i < n → I b → I (g b i)) : I (foldN n g s) := by
 induction n with
 | zero => exact h0
 | succ n ih => rw [foldN_succ]; exact hs _ n (by omega) (ih fun b i hi => hs b i (by omega))
theorem powN_range {n : Nat} {G : Nat → Nat → Int} {most : Int} (hG : ∀ i j, i < n → j < n → 0 ≤ G i j ∧ G i j ≤ 9) (hm : 1 ≤ most) (hm2 : most ≤ 100000000000000000) : ∀ (m i j : Nat), i < n → j < n → 0 ≤ powN n G most m i j ∧ powN n G most m i j ≤ most
 | 0, i, j, _, _ => by unfold powN idM; split <;> omega
 | m + 1, i, j, hi, hj => by
  show 0 ≤ foldN n _ 0 ∧ foldN n _ 0 ≤ most
  exact foldN_inv (fun x => 0 ≤ x ∧ x ≤ most) ⟨by omega, by omega⟩ fun b k hk hb => by
   have h1 := powN_range hG hm hm2 m i k hi hk
   have h2 := hG k j hk hj
   exact capMul_range (by omega) (by omega) hb.1 hb.2 h1.1 h1.2 h2.1 h2.2 (.inl hm2)
theorem sum_row (xs : List Int) (v : Int) (hv : 0 ≤ v ∧ v ≤ 1000000000000) (hx : ∀ x ∈ xs, 0 ≤ x ∧ x ≤ 1000000001) (hl : xs.length ≤ 8) :
  loopO (impl_TotalWalks_b2 xs) (v, 0) = some (v + xs.sum) := by
 have hb : ∀ i, i ≤ xs.length → 0 ≤ (xs.take i).sum ∧ (xs.take i).sum ≤ 1000000001 * i := by
  intro i
  induction i with
  | zero => simp
  | succ i ih =>
   intro hi
   have h1 := ih (by omega)
   have h2 := hx xs[i] (List.getElem_mem (by omega))
   rw [List.take_add_one, List.sum_append, List.getElem?_eq_getElem (by omega)]
   simp only [Option.toList_some, List.sum_cons, List.sum_nil]
   omega
 have h := loop_idx (body := impl_TotalWalks_b2 xs) xs.length (fun i => (v + (xs.take i).sum, (i : Int))) (v + xs.sum) (fun i hi => by
  have h1 := hb i (by omega)
  have h2 := hb (i + 1) (by omega)
  have h3 : (xs.take (i + 1)).sum = (xs.take i).sum + xs[i] := by
   rw [List.take_add_one, List.sum_append, List.getElem?_eq_getElem hi]; simp
  simp only [impl_TotalWalks_b2, idxO_lt hi, Option.bind_some, w64_nat (show i < 9223372036854775807 by omega), show ((i : Int) < (xs.length : Int)) from by omega, decide_true, if_true]
  rw [w64_id (by omega) (by omega), h3, Int.add_assoc]) (by simp [impl_TotalWalks_b2])
 simpa using h
def capAt (x : Int) : Int := if 1000000001 < x then 1000000001 else x
theorem cap_row (xs : List Int) (v : Int) (hv : 0 ≤ v) (hx : ∀ x ∈ xs, 0 ≤ x ∧ x ≤ 1000000001) (hl : xs.length ≤ 8) :
  loopO (spec_gwTotal_b2 xs) (capAt v, 0) = some (capAt (v + xs.sum)) := by
 have hb : ∀ i, i ≤ xs.length → 0 ≤ (xs.take i).sum := by
  intro i
  induction i with
  | zero => simp
  | succ i ih =>
   intro hi
   have h1 := ih (by omega)
   have h2 := hx xs[i] (List.getElem_mem (by omega))
   rw [List.take_add_one, List.sum_append, List.getElem?_eq_getElem (by omega)]
   simp only [Option.toList_some, List.sum_cons, List.sum_nil]
   omega
 have h := loop_idx (body := spec_gwTotal_b2 xs) xs.length (fun i => (capAt (v + (xs.take i).sum), (i : Int))) (capAt (v + xs.sum)) (fun i hi => by
  have h1 := hb i (by omega)
  have h2 := hx xs[i] (List.getElem_mem hi)
  have h3 : (xs.take (i + 1)).sum = (xs.take i).sum + xs[i] := by
   rw [List.take_add_one, List.sum_append, List.getElem?_eq_getElem hi]; simp
  simp only [spec_gwTotal_b2, idxO_lt hi, Option.bind_some, spec_grCap_eq, w64_nat (show i < 9223372036854775807 by omega), show ((i : Int) < (xs.length : Int)) from by omega, decide_true, if_true]
  rw [h3]
  have h4 : 0 ≤ capAt (v + (xs.take i).sum) ∧ capAt (v + (xs.take i).sum) ≤ 1000000001 := by unfold capAt; split <;> omega
  rw [w64_id (by omega) (by omega)]
  congr 3
  unfold capAt
  (repeat' split) <;> omega) (by simp [spec_gwTotal_b2])
 simpa using h
def total (g : List (List Int)) : Int := (g.map List.sum).sum
theorem sum_nonneg {xs : List Int} (hx : ∀ x ∈ xs, 0 ≤ x ∧ x ≤ 1000000001) : 0 ≤ xs.sum ∧ xs.sum ≤ 1000000001 * xs.length := by
 induction xs with
 | nil => simp
 | cons x xs ih =>
  have h1 := hx x (by simp)
  have h2 := ih fun y hy => hx y (by simp [hy])
  simp only [List.sum_cons, List.length_cons]; omega
theorem total_take {g : List (List Int)} (hx : ∀ row ∈ g, row.length ≤ 8 ∧ ∀ x ∈ row, 0 ≤ x ∧ x ≤ 1000000001) : ∀ i, i ≤ g.length → 0 ≤ total (g.take i) ∧ total (g.take i) ≤ 10000000000 * i := by
 intro i
 induction i with
 | zero => simp [total]
 | succ i ih =>
  intro hi
  have h1 := ih (by omega)
  have h2 := hx g[i] (List.getElem_mem (by omega))
  have h3 := sum_nonneg h2.2
  unfold total at h1 ⊢
  rw [List.take_add_one, List.map_append, List.sum_append, List.getElem?_eq_getElem (by omega)]
  simp only [Option.toList_some, List.map_cons, List.map_nil, List.sum_cons, List.sum_nil]
  omega
theorem total_succ {g : List (List Int)} {i : Nat} (hi : i < g.length) : total (g.take (i + 1)) = total (g.take i) + g[i].sum := by
 unfold total
 rw [List.take_add_one, List.map_append, List.sum_append, List.getElem?_eq_getElem hi]; simp
theorem impl_total (g : List (List Int)) (hl : g.length ≤ 8) (hx : ∀ row ∈ g, row.length ≤ 8 ∧ ∀ x ∈ row, 0 ≤ x ∧ x ≤ 1000000001) : loopO (impl_TotalWalks_b1 g) (0, 0) = some (total g) := by
 have h := loop_idx (body := impl_TotalWalks_b1 g) g.length (fun i => (total (g.take i), (i : Int))) (total g) (fun i hi => by
  have h1 := total_take hx i (by omega)
  have h2 := hx g[i] (List.getElem_mem hi)
  simp only [impl_TotalWalks_b1, idxO_lt hi, Option.bind_some, sum_row g[i] _ ⟨h1.1, by omega⟩ h2.2 h2.1, impl_TotalWalks_k2, w64_nat (show i < 9223372036854775807 by omega), show ((i : Int) < (g.length : Int)) from by omega, decide_true, if_true]
  rw [total_succ hi]) (by simp [impl_TotalWalks_b1])
 exact h
theorem spec_total (g : List (List Int)) (hl : g.length ≤ 8) (hx : ∀ row ∈ g, row.length ≤ 8 ∧ ∀ x ∈ row, 0 ≤ x ∧ x ≤ 1000000001) : loopO (spec_gwTotal_b1 g) (0, 0) = some (capAt (total g)) := by
 have h := loop_idx (body := spec_gwTotal_b1 g) g.length (fun i => (capAt (total (g.take i)), (i : Int))) (capAt (total g)) (fun i hi => by
  have h1 := total_take hx i (by omega)
  have h2 := hx g[i] (List.getElem_mem hi)
  simp only [spec_gwTotal_b1, idxO_lt hi, Option.bind_some, cap_row g[i] _ h1.1 h2.2 h2.1, spec_gwTotal_k2, w64_nat (show i < 9223372036854775807 by omega), show ((i : Int) < (g.length : Int)) from by omega, decide_true, if_true]
  rw [total_succ hi]) (by simp [spec_gwTotal_b1])
 exact h
theorem mat_rows {n : Nat} {F : Nat → Nat → Int} (hn : n ≤ 8) (hF : ∀ i j, i < n → j < n → 0 ≤ F i j ∧ F i j ≤ 1000000001) : ∀ row ∈ mat n n F, row.length ≤ 8 ∧ ∀ x ∈ row, 0 ≤ x ∧ x ≤ 1000000001 := by
 intro row hr
 obtain ⟨i, hi, rfl⟩ := tab_mem.1 hr
 refine ⟨by rw [tab_len]; exact hn, fun x hx => ?_⟩
 obtain ⟨j, hj, rfl⟩ := tab_mem.1 hx
 exact hF i j hi hj
def totalWalks (g : List (List Int)) (m : Int) : Int × Bool :=
 if isGraph g && inB 0 12 m then
  let t := total (mat g.length g.length (powN g.length (fun i j => (g.getD i []).getD j 0) 1000000001 m.toNat))
  if t > 1000000000 then (0, false) else (t, true)
 else (0, false)
theorem mat_self {n : Nat} {G : Nat → Nat → Int} (i j : Nat) (hi : i < n) (hj : j < n) : ((mat n n G).getD i []).getD j 0 = G i j := by
 simp [List.getD, mat, tab_get hi, tab_get hj]
theorem powN_congr {n : Nat} {G G' : Nat → Nat → Int} {most : Int} (h : ∀ i j, i < n → j < n → G i j = G' i j) : ∀ m i j, j < n → powN n G most m i j = powN n G' most m i j
 | 0, _, _, _ => rfl
 | m + 1, i, j, hj => by
  show foldN n _ 0 = foldN n _ 0
  exact foldN_ext fun b k hk => by rw [powN_congr h m i k hk, h k j hk hj]
theorem impl_TotalWalks_eq (g : List (List Int)) (m : Int) (hs : sized g) : impl_TotalWalks g m = some (totalWalks g m) := by
 unfold impl_TotalWalks totalWalks impl_isWalk
 rw [impl_isGraph_eq g hs]
 simp only [Option.bind_some, impl_within_eq]
 cases hg : isGraph g
 ·rfl
 ·cases hm : inB 0 12 m
  ·rfl
  ·obtain ⟨n, G, h1, h2, rfl, hG⟩ := isGraph_mat hg
   have hm' := inB_iff.1 hm
   obtain ⟨k, rfl⟩ := Int.eq_ofNat_of_zero_le hm'.1
   have e : mat n n (powN n (fun i j => ((mat n n G).getD i []).getD j 0) 1000000001 k) = mat n n (powN n G 1000000001 k) := mat_ext fun i j _ hj => powN_congr (fun i j hi hj => mat_self i j hi hj) k i j hj
   simp only [if_true, Bool.not_true, Bool.false_eq_true, if_false, Bool.and_self, impl_power, impl_powerUpTo_eq h2 k (by omega), Option.bind_some, mat_len, Int.toNat_natCast, e]
   rw [impl_total _ (by rw [mat_len]; exact h2) (mat_rows h2 fun i j hi hj => powN_range hG (by decide) (by decide) k i j hi hj)]
   simp only [Option.bind_some, impl_TotalWalks_k1]
   by_cases ht : total (mat n n (powN n G 1000000001 k)) > 1000000000 <;> simp [ht]
theorem spec_gwTotal_eq {n : Nat} {G : Nat → Nat → Int} (h2 : n ≤ 8) (hG : ∀ i j, i < n → j < n → 0 ≤ G i j ∧ G i j ≤ 9) (k : Nat) (hk : k ≤ 1048576) : spec_gwTotal (mat n n G) (k : Int) = some (capAt (total (mat n n (powN n G 1000000001 k)))) := by
 unfold spec_gwTotal
 rw [spec_grPower_eq h2 k hk, Option.bind_some, spec_total _ (by rw [mat_len]; exact h2) (mat_rows h2 fun i j hi hj => powN_range hG (by decide) (by decide) k i j hi hj)]
 rfl
theorem spec_TotalWalks_eq (g : List (List Int)) (m : Int) (hs : sized g) : spec_TotalWalks g m = some (totalWalks g m) := by
 unfold spec_TotalWalks totalWalks
 rw [spec_grGood_eq g hs]
 simp only [Option.bind_some, spec_grSteps, spec_l1In_eq]
 cases hg : isGraph g
 ·rfl
 ·cases hm : inB 0 12 m
  ·rfl
  ·obtain ⟨n, G, h1, h2, rfl, hG⟩ := isGraph_mat hg
   have hm' := inB_iff.1 hm
   obtain ⟨k, rfl⟩ := Int.eq_ofNat_of_zero_le hm'.1
   have e : mat n n (powN n (fun i j => ((mat n n G).getD i []).getD j 0) 1000000001 k) = mat n n (powN n G 1000000001 k) := mat_ext fun i j _ hj => powN_congr (fun i j hi hj => mat_self i j hi hj) k i j hj
   simp only [if_true, Bool.not_true, Bool.false_eq_true, if_false, Bool.and_self, Option.bind_some, mat_len, Int.toNat_natCast, e, spec_gwTotal_eq h2 hG k (by omega)]
   by_cases ht : total (mat n n (powN n G 1000000001 k)) > 1000000000
   ·have : capAt (total (mat n n (powN n G 1000000001 k))) > 1000000000 := by unfold capAt; split <;> omega
    simp [ht, this]
   ·have : capAt (total (mat n n (powN n G 1000000001 k))) = total (mat n n (powN n G 1000000001 k)) := by unfold capAt; split <;> omega
    simp [ht, this]
theorem digits_ends (v : Int) (h : v ≤ 9223372036854775807) (d : Int) : ∃ r, loopO impl_WalkDigits_b1 (v, d) = some r := by
 obtain ⟨y, h1, _⟩ := loop_run (body := impl_WalkDigits_b1) (fun x => x.1 ≤ 9223372036854775807) (fun x => x.1.toNat) (fun _ => True) (fun ⟨a, b⟩ ha => by
  simp only at ha
  by_cases hlt : a > 1
  ·left
   have h3 : Int.tdiv a 2 = a / 2 := Int.tdiv_eq_ediv_of_nonneg (by omega)
   refine ⟨(a / 2, w64 (b + 1)), ?_, by simp only []; omega, by simp only []; omega⟩
   simp only [impl_WalkDigits_b1, hlt, decide_true, if_true, h3]
   rw [w64_id (n := a / 2) (by omega) (by omega)]
  ·right; exact ⟨b, by simp [impl_WalkDigits_b1, hlt], trivial⟩) (v, d) h
 exact ⟨y, h1⟩
theorem digits_same : spec_WalkDigits_b1 = impl_WalkDigits_b1 := rfl
theorem WalkDigits_same (g : List (List Int)) (m : Int) (hs : sized g) : ∃ r, impl_WalkDigits g m = some r ∧ spec_WalkDigits g m = some r := by
 unfold impl_WalkDigits spec_WalkDigits
 rw [impl_TotalWalks_eq g m hs, spec_grGood_eq g hs]
 simp only [Option.bind_some, spec_grSteps, spec_l1In_eq, totalWalks, digits_same]
 cases hg : isGraph g
 ·exact ⟨_, rfl, rfl⟩
 ·cases hm : inB 0 12 m
  ·exact ⟨_, rfl, rfl⟩
  ·obtain ⟨n, G, h1, h2, rfl, hG⟩ := isGraph_mat hg
   have hm' := inB_iff.1 hm
   obtain ⟨k, rfl⟩ := Int.eq_ofNat_of_zero_le hm'.1
   have e : mat n n (powN n (fun i j => ((mat n n G).getD i []).getD j 0) 1000000001 k) = mat n n (powN n G 1000000001 k) := mat_ext fun i j _ hj => powN_congr (fun i j hi hj => mat_self i j hi hj) k i j hj
   have hpos : 0 ≤ total (mat n n (powN n G 1000000001 k)) := by
    have := total_take (mat_rows h2 fun i j hi hj => powN_range hG (by decide) (by decide) k i j hi hj) n (by rw [mat_len]; exact Nat.le_refl _)
    rw [List.take_of_length_le (by rw [mat_len]; exact Nat.le_refl _)] at this
    exact this.1
   simp only [if_true, Bool.not_true, Bool.false_eq_true, if_false, Bool.and_self, Option.bind_some, mat_len, Int.toNat_natCast, e, spec_gwTotal_eq h2 hG k (by omega)]
   by_cases ht : total (mat n n (powN n G 1000000001 k)) > 1000000000
   ·have : capAt (total (mat n n (powN n G 1000000001 k))) > 1000000000 := by unfold capAt; split <;> omega
    simp [ht, this]
   ·have : capAt (total (mat n n (powN n G 1000000001 k))) = total (mat n n (powN n G 1000000001 k)) := by unfold capAt; split <;> omega
    obtain ⟨r, hr⟩ := digits_ends (total (mat n n (powN n G 1000000001 k))) (by omega) 0
    by_cases hz : total (mat n n (powN n G 1000000001 k)) = 0
    ·have hc0 : capAt 0 = 0 := rfl
     simp [hz, hc0]
    ·refine ⟨(r, true), ?_, ?_⟩ <;> simp [ht, hz, this, hr, impl_WalkDigits_k1, spec_WalkDigits_k1]
end Go.PV

/-
 Plain laws: characteristic polynomials.
 Conditions: none.
-/
set_option linter.all false
namespace Go.PV
def mulW (n : Nat) (A M : Nat → Nat → Int) (i j : Nat) : Int := foldN n (fun s l => w64 (s + w64 (A i l * M l j))) 0
def trW (n : Nat) (P : Nat → Nat → Int) : Int := foldN n (fun s i => w64 (s + P i i)) 0
def addD (M : Nat → Nat → Int) (c : Int) (i j : Nat) : Int := if i = j then w64 (M i j + c) else M i j
section
variable {n : Nat} {A : Nat → Nat → Int}
def chN (n : Nat) (A : Nat → Nat → Int) : Nat → (Nat → Int) × (Nat → Nat → Int)
 | 0 => (fun i => if i = n then 1 else 0, fun _ _ => 0)
 | k + 1 => (fun i => if i = n - (k + 1) then w64 (Int.tdiv (w64 (0 - trW n (mulW n A (addD (chN n A k).2 ((chN n A k).1 (n - k)))))) ((k + 1 : Nat) : Int)) else (chN n A k).1 i, mulW n A (addD (chN n A k).2 ((chN n A k).1 (n - k))))
end
def isPoly (c : List Int) : Bool := decide ((c.length : Int) ≤ 9) && (c.all (inB (-1000000) 1000000))
end Go.PV

set_option linter.all false
namespace Go.PV
theorem lowest_isRat {n d : Int} (h1 : 0 ≤ n) (h2 : n ≤ 1000000000) (h3 : 1 ≤ d) (h4 : d ≤ 1000000000) : isRat (lowest n d).1 = true := by
 have hg : 0 < Int.gcd n d := Int.gcd_pos_of_ne_zero_right _ (by omega)
 have key : isRat (Int.tdiv n (Int.gcd n d : Int), Int.tdiv d (Int.gcd n d : Int)) = true := by
  obtain ⟨a, rfl⟩ := Int.eq_ofNat_of_zero_le h1
  obtain ⟨b, rfl⟩ := Int.eq_ofNat_of_zero_le (show 0 ≤ d by omega)
  have e : Int.gcd (a : Int) (b : Int) = Nat.gcd a b := rfl
  rw [e] at hg ⊢
  have e1 : Int.tdiv (a : Int) ((Nat.gcd a b : Nat) : Int) = ((a / Nat.gcd a b : Nat) : Int) := by rw [Int.tdiv_eq_ediv_of_nonneg (by omega)]; rfl
  have e2 : Int.tdiv (b : Int) ((Nat.gcd a b : Nat) : Int) = ((b / Nat.gcd a b : Nat) : Int) := by rw [Int.tdiv_eq_ediv_of_nonneg (by omega)]; rfl
  rw [e1, e2, isRat_iff]
  have l1 : a / Nat.gcd a b ≤ a := Nat.div_le_self _ _
  have l2 : b / Nat.gcd a b ≤ b := Nat.div_le_self _ _
  have l3 : 0 < b / Nat.gcd a b := Nat.div_pos (Nat.le_of_dvd (by omega) (Nat.gcd_dvd_right a b)) hg
  have l4 : ((a / Nat.gcd a b : Nat) : Int) ≤ 1000000000 := by omega
  have l5 : ((b / Nat.gcd a b : Nat) : Int) ≤ 1000000000 := by omega
  have l6 : 1 ≤ ((b / Nat.gcd a b : Nat) : Int) := by omega
  have l7 : 0 ≤ ((a / Nat.gcd a b : Nat) : Int) := Int.natCast_nonneg _
  generalize hA : ((a / Nat.gcd a b : Nat) : Int) = A at l4 l7 ⊢
  generalize hB : ((b / Nat.gcd a b : Nat) : Int) = B at l5 l6 ⊢
  refine ⟨l6, l5, by show -1000000000 ≤ A; omega, l4, ?_⟩
  rw [← hA, ← hB]
  exact Nat.coprime_div_gcd_div_gcd hg
 have hdn : ¬ d < 0 := by omega
 unfold lowest
 simp only [if_neg hdn]
 rw [if_pos key]
 exact key
theorem spec_raMake_eq (n d : Int) (h1 : 0 ≤ n) (h2 : n ≤ 1000000000) (h3 : 1 ≤ d) (h4 : d ≤ 1000000000) : spec_raMake n d = some (lowest n d) := by
 have hg : 0 < Int.gcd n d := Int.gcd_pos_of_ne_zero_right _ (by omega)
 have hd0 : (d == 0) = false := by simpa using (show d ≠ 0 by omega)
 have hdn : ¬ d < 0 := by omega
 unfold spec_raMake spec_raMake_k1 lowest
 simp only [hd0, Bool.false_eq_true, if_false, spec_l1Abs_eq n (by omega) (by omega), spec_l1Abs_eq d (by omega) (by omega), Option.bind_some, spec_raCommon_eq (n.natAbs : Int) (d.natAbs : Int) (by omega) (by omega), hdn, decide_false]
 have e : Int.gcd (n.natAbs : Int) (d.natAbs : Int) = Int.gcd n d := rfl
 rw [e, guardO_bind_pos (by omega), tdiv_w64 _ _ (by omega) (by omega) (by omega), tdiv_w64 _ _ (by omega) (by omega) (by omega), spec_raGood_eq, Option.bind_some]
 cases isRat (Int.tdiv n (Int.gcd n d : Int), Int.tdiv d (Int.gcd n d : Int)) <;> simp
theorem cmp_same {a b : Int × Int} (ha : isRat a = true) (hb : isRat b = true) (h : a.1 * b.2 = b.1 * a.2) : a = b := by
 obtain ⟨a1, a2, a3, a4, a5⟩ := isRat_iff.1 ha
 obtain ⟨b1, b2, b3, b4, b5⟩ := isRat_iff.1 hb
 obtain ⟨p, q⟩ := a
 obtain ⟨r, s⟩ := b
 simp only at *
 have hn : p.natAbs * s.natAbs = r.natAbs * q.natAbs := by rw [← Int.natAbs_mul, ← Int.natAbs_mul, h]
 have c1 : Nat.Coprime p.natAbs q.natAbs := a5
 have c2 : Nat.Coprime r.natAbs s.natAbs := b5
 have d1 : s.natAbs ∣ q.natAbs := by
  have : s.natAbs ∣ r.natAbs * q.natAbs := ⟨p.natAbs, by rw [← hn]; exact Nat.mul_comm _ _⟩
  exact c2.symm.dvd_of_dvd_mul_left this
 have d2 : q.natAbs ∣ s.natAbs := by
  have : q.natAbs ∣ p.natAbs * s.natAbs := ⟨r.natAbs, by rw [hn]; exact Nat.mul_comm _ _⟩
  exact c1.symm.dvd_of_dvd_mul_left this
 have hqs : q.natAbs = s.natAbs := Nat.dvd_antisymm d2 d1
 have hq : q = s := by omega
 subst hq
 have : p = r := Int.eq_of_mul_eq_mul_right (by omega) h
 rw [this]
def dotN (G : Nat → Int) (v : Nat → Int) (n : Nat) : Int := foldN n (fun s j => s + G j * v j) 0
theorem dotN_bound {G v : Nat → Int} {n : Nat} (k : Nat) (hk : k ≤ n) (hG : ∀ j, j < n → 0 ≤ G j ∧ G j ≤ 9) (hv : ∀ j, j < n → 1 ≤ v j ∧ v j ≤ 1000000) : 0 ≤ dotN G v k ∧ dotN G v k ≤ 9000000 * k := by
 induction k with
 | zero => simp [dotN, foldN_zero]
 | succ k ih =>
  have := ih (by omega)
  have e : dotN G v (k + 1) = dotN G v k + G k * v k := by simp [dotN, foldN_succ]
  obtain ⟨g1, g2⟩ := hG k (by omega)
  obtain ⟨v1, v2⟩ := hv k (by omega)
  have p1 : 0 ≤ G k * v k := Int.mul_nonneg g1 (by omega)
  have p2 : G k * v k ≤ 9 * 1000000 := Int.mul_le_mul g2 v2 (by omega) (by omega)
  rw [e]
  omega
theorem dotN_step {G v : Nat → Int} {n k : Nat} (hn : n ≤ 8) (hk : k < n) (hG : ∀ j, j < n → 0 ≤ G j ∧ G j ≤ 9) (hv : ∀ j, j < n → 1 ≤ v j ∧ v j ≤ 1000000) : w64 (dotN G v k + w64 (G k * v k)) = dotN G v (k + 1) := by
 have b1 := dotN_bound k (by omega) hG hv
 have e : dotN G v (k + 1) = dotN G v k + G k * v k := by simp [dotN, foldN_succ]
 obtain ⟨g1, g2⟩ := hG k (by omega)
 obtain ⟨v1, v2⟩ := hv k (by omega)
 have p1 : 0 ≤ G k * v k := Int.mul_nonneg g1 (by omega)
 have p2 : G k * v k ≤ 9 * 1000000 := Int.mul_le_mul g2 v2 (by omega) (by omega)
 rw [e, w64_id (n := G k * v k) (by omega) (by omega), w64_id (by omega) (by omega)]
theorem spec_gwTimes_eq {n : Nat} {G : Nat → Nat → Int} {v : Nat → Int} (hn : n ≤ 8) (hG : ∀ i j, i < n → j < n → 0 ≤ G i j ∧ G i j ≤ 9) (hv : ∀ j, j < n → 1 ≤ v j ∧ v j ≤ 1000000) :
  spec_gwTimes (mat n n G) (tab n v) = some (tab n fun i => dotN (G i) v n) := by
 have inner : ∀ i, i < n → loopO (spec_gwTimes_b2 (tab n v) (tab n (G i))) (0, 0) = some (dotN (G i) v n) := fun i hi => by
  have h := loop_idx (body := spec_gwTimes_b2 (tab n v) (tab n (G i))) n (fun j => (dotN (G i) v j, (j : Int))) (dotN (G i) v n) (fun j hj => by
   simp only [spec_gwTimes_b2, tab_len, idxO_tab hj, Option.bind_some, show ((j : Int) < (n : Int)) from by omega, decide_true, if_true, w64_nat (show j < 9223372036854775807 by omega), dotN_step hn hj (fun j hj => hG i j hi hj) hv]) (by simp [spec_gwTimes_b2, tab_len])
  exact h
 have outer := loop_idx (body := spec_gwTimes_b1 (mat n n G) (tab n v)) n (fun i => (tab i fun i => dotN (G i) v n, (i : Int))) (tab n fun i => dotN (G i) v n) (fun i hi => by
  simp only [spec_gwTimes_b1, mat_len, idxO_mat hi, Option.bind_some, show ((i : Int) < (n : Int)) from by omega, decide_true, if_true, inner i hi, spec_gwTimes_k3, spec_gwTimes_k2, w64_nat (show i < 9223372036854775807 by omega)]
  rw [guardO_bind_pos (by simp [tab_len]; omega), tab_succ i fun i => dotN (G i) v n]) (by simp [spec_gwTimes_b1, mat_len])
 unfold spec_gwTimes
 have : loopO (spec_gwTimes_b1 (mat n n G) (tab n v)) ([], 0) = some (tab n fun i => dotN (G i) v n) := outer
 rw [this]
 rfl
theorem impl_times_eq {n : Nat} {G : Nat → Nat → Int} {v : Nat → Int} (hn : n ≤ 8) (hG : ∀ i j, i < n → j < n → 0 ≤ G i j ∧ G i j ≤ 9) (hv : ∀ j, j < n → 1 ≤ v j ∧ v j ≤ 1000000) :
  impl_times (mat n n G) (tab n v) = some (tab n fun i => dotN (G i) v n) := by
 let R : Nat → Nat → Nat → Int := fun i j k => if k < i then dotN (G k) v n else if k = i then dotN (G i) v j else 0
 have inner : ∀ i, i < n → loopO (impl_times_b2 (tab n v) (tab n (R i 0), (i : Int)) (tab n (G i))) (tab n (R i 0), 0) = some (tab n (R i n)) := fun i hi => by
  have h := loop_idx (body := impl_times_b2 (tab n v) (tab n (R i 0), (i : Int)) (tab n (G i))) n (fun j => (tab n (R i j), (j : Int))) (tab n (R i n)) (fun j hj => by
   simp only [impl_times_b2, tab_len, idxO_tab hj, idxO_tab hi, Option.bind_some, show ((j : Int) < (n : Int)) from by omega, decide_true, if_true, w64_nat (show j < 9223372036854775807 by omega), Int.toNat_natCast]
   rw [show R i j i = dotN (G i) v j by simp [R], dotN_step hn hj (fun j hj => hG i j hi hj) hv, tab_set hi]
   congr 3
   refine tab_ext fun k hk => ?_
   by_cases hki : k = i
   ·subst hki; simp [R]
   ·simp [R, hki]) (by simp [impl_times_b2, tab_len])
  exact h
 have outer := loop_idx (body := impl_times_b1 (mat n n G) (tab n v)) n (fun i => (tab n (R i 0), (i : Int))) (tab n (R n 0)) (fun i hi => by
  simp only [impl_times_b1, mat_len, idxO_mat hi, Option.bind_some, show ((i : Int) < (n : Int)) from by omega, decide_true, if_true, inner i hi, impl_times_k2, w64_nat (show i < 9223372036854775807 by omega)]
  congr 3
  refine tab_ext fun k hk => ?_
  by_cases h1 : k < i
  ·simp [R, h1, show k < i + 1 by omega]
  ·by_cases h2 : k = i
   ·subst h2; simp [R]
   ·have h3 : ¬ k < i + 1 := by omega
    by_cases h4 : k = i + 1
    ·subst h4; simp [R, dotN, foldN_zero, show ¬ i + 1 < i by omega]
    ·simp [R, h1, h2, h3, h4]) (by simp [impl_times_b1, mat_len])
 unfold impl_times
 rw [mat_len, guardO_bind_pos (by omega), Int.toNat_natCast, rep_tab]
 have e : tab n (fun _ => (0 : Int)) = tab n (R 0 0) := tab_ext fun k hk => by
  by_cases h : k = 0
  ·subst h; simp [R, dotN, foldN_zero]
  ·simp [R, h]
 rw [e]
 have : loopO (impl_times_b1 (mat n n G) (tab n v)) (tab n (R 0 0), 0) = some (tab n (R n 0)) := outer
 rw [this, Option.bind_some]
 simp only [impl_times_k1]
 congr 1
 exact tab_ext fun k hk => by simp [R, hk]
end Go.PV

set_option linter.all false
namespace Go.PV
theorem less_not {a b : Int × Int} (hl : less a b = true) : less b a = false := by
 simp only [less, decide_eq_true_eq, decide_eq_false_iff_not] at hl ⊢
 omega
def minStep (a b : Int × Int) : Int × Int := if less b a = true then b else a
def maxStep (a b : Int × Int) : Int × Int := if less a b = true then b else a
def mnN (r : Nat → Int × Int) (i : Nat) : Int × Int := foldN i (fun s j => minStep s (r j)) (r 0)
def mxN (r : Nat → Int × Int) (i : Nat) : Int × Int := foldN i (fun s j => maxStep s (r j)) (r 0)
theorem mnN_succ (r : Nat → Int × Int) (i : Nat) : mnN r (i + 1) = minStep (mnN r i) (r i) := by simp [mnN, foldN_succ]
theorem mxN_succ (r : Nat → Int × Int) (i : Nat) : mxN r (i + 1) = maxStep (mxN r i) (r i) := by simp [mxN, foldN_succ]
theorem less_self (a : Int × Int) : less a a = false := by simp [less]
theorem mnN_one (r : Nat → Int × Int) : mnN r 1 = r 0 := by simp [mnN, foldN, minStep, less_self]
theorem mxN_one (r : Nat → Int × Int) : mxN r 1 = r 0 := by simp [mxN, foldN, maxStep, less_self]
theorem mn_rat {r : Nat → Int × Int} {n : Nat} (h0 : isRat (r 0) = true) (h : ∀ i, i < n → isRat (r i) = true) : ∀ i, i ≤ n → isRat (mnN r i) = true ∧ isRat (mxN r i) = true
 | 0, _ => by simpa [mnN, mxN, foldN_zero] using h0
 | i + 1, hi => by
  have ih := mn_rat h0 h i (by omega)
  rw [mnN_succ, mxN_succ]
  unfold minStep maxStep
  refine ⟨?_, ?_⟩
  ·split
   ·exact h i (by omega)
   ·exact ih.1
  ·split
   ·exact h i (by omega)
   ·exact ih.2
theorem cmp_lt (a b : Int × Int) : decide (cmp a b < 0) = less a b := by
 unfold cmp less
 by_cases h1 : a.1 * b.2 < b.1 * a.2
 ·simp [h1]
 ·by_cases h2 : a.1 * b.2 > b.1 * a.2 <;> simp [h1, h2]
theorem spec_ivLess_eq (a b : Int × Int) (ha : isRat a = true) (hb : isRat b = true) : spec_ivLess a b = some (minStep a b) := by
 unfold spec_ivLess minStep
 rw [spec_raCmp_eq a b (tame_of ha) (tame_of hb), Option.bind_some, cmp_lt]
 cases h : less a b
 ·simp only [Bool.false_eq_true, if_false]
  cases h2 : less b a
  ·simp only [Bool.false_eq_true, if_false]
   congr 1
   refine (cmp_same ha hb ?_).symm
   simp only [less, decide_eq_false_iff_not] at h h2
   omega
  ·rfl
 ·rw [less_not h]; rfl
theorem spec_ivGreater_eq (a b : Int × Int) (ha : isRat a = true) (hb : isRat b = true) : spec_ivGreater a b = some (maxStep a b) := by
 unfold spec_ivGreater maxStep
 rw [spec_raCmp_eq a b (tame_of ha) (tame_of hb), Option.bind_some, cmp_lt]
 cases less a b <;> rfl
def ratN (G : Nat → Nat → Int) (v : Nat → Int) (n i : Nat) : Int × Int := (lowest (dotN (G i) v n) (v i)).1
section
variable {n : Nat} {G : Nat → Nat → Int} {v : Nat → Int}
theorem ratN_rat (hn : n ≤ 8) (hG : ∀ i j, i < n → j < n → 0 ≤ G i j ∧ G i j ≤ 9) (hv : ∀ j, j < n → 1 ≤ v j ∧ v j ≤ 1000000) {i : Nat} (hi : i < n) : isRat (ratN G v n i) = true := by
 have b := dotN_bound n (Nat.le_refl n) (fun j hj => hG i j hi hj) hv
 have c := hv i hi
 exact lowest_isRat b.1 (by omega) c.1 (by omega)
theorem spec_gwRatios_eq (hn : n ≤ 8) (hG : ∀ i j, i < n → j < n → 0 ≤ G i j ∧ G i j ≤ 9) (hv : ∀ j, j < n → 1 ≤ v j ∧ v j ≤ 1000000) : spec_gwRatios (mat n n G) (tab n v) = some (tab n (ratN G v n)) := by
 have h := loop_idx (body := spec_gwRatios_b1 (tab n v) (tab n fun i => dotN (G i) v n)) n (fun i => (tab i (ratN G v n), (i : Int))) (tab n (ratN G v n)) (fun i hi => by
  have b := dotN_bound n (Nat.le_refl n) (fun j hj => hG i j hi hj) hv
  have c := hv i hi
  simp only [spec_gwRatios_b1, tab_len, idxO_tab hi, Option.bind_some, show ((i : Int) < (n : Int)) from by omega, decide_true, if_true, spec_raMake_eq _ _ b.1 (by omega) c.1 (by omega), w64_nat (show i < 9223372036854775807 by omega)]
  rw [guardO_bind_pos (by simp; omega), ← tab_succ i (ratN G v n)]
  rfl) (by simp [spec_gwRatios_b1, tab_len])
 unfold spec_gwRatios
 rw [spec_gwTimes_eq hn hG hv, Option.bind_some]
 have h' : loopO (spec_gwRatios_b1 (tab n v) (tab n fun i => dotN (G i) v n)) ([], 0) = some (tab n (ratN G v n)) := h
 rw [h']
 rfl
theorem spec_gwBounds_eq (h1 : 1 ≤ n) (hn : n ≤ 8) (hG : ∀ i j, i < n → j < n → 0 ≤ G i j ∧ G i j ≤ 9) (hv : ∀ j, j < n → 1 ≤ v j ∧ v j ≤ 1000000) :
  spec_gwBounds (mat n n G) (tab n v) = some (mnN (ratN G v n) n, mxN (ratN G v n) n) := by
 have hr : ∀ i, i < n → isRat (ratN G v n i) = true := fun i hi => ratN_rat hn hG hv hi
 generalize hR : ratN G v n = r at hr
 have h := loop_idx (body := spec_gwBounds_b1 (tab n r)) n (fun i => ((mnN r i).1, (mnN r i).2, (mxN r i).1, (mxN r i).2, (i : Int))) ((mnN r n).1, (mnN r n).2, (mxN r n).1, (mxN r n).2) (fun i hi => by
  have b := mn_rat (hr 0 (by omega)) hr i (by omega)
  simp only [spec_gwBounds_b1, tab_len, idxO_tab hi, Option.bind_some, show ((i : Int) < (n : Int)) from by omega, decide_true, if_true, w64_nat (show i < 9223372036854775807 by omega)]
  rw [show ((mnN r i).1, (mnN r i).2) = mnN r i from rfl, show ((mxN r i).1, (mxN r i).2) = mxN r i from rfl, spec_ivLess_eq _ _ b.1 (hr i hi), spec_ivGreater_eq _ _ b.2 (hr i hi)]
  simp only [Option.bind_some, mnN_succ, mxN_succ]) (by simp [spec_gwBounds_b1, tab_len])
 unfold spec_gwBounds
 rw [spec_gwRatios_eq hn hG hv, hR, Option.bind_some, show (0 : Int) = ((0 : Nat) : Int) from rfl, idxO_tab (by omega), Option.bind_some]
 have h' : loopO (spec_gwBounds_b1 (tab n r)) ((r 0).1, (r 0).2, (r 0).1, (r 0).2, ((0 : Nat) : Int)) = some ((mnN r n).1, (mnN r n).2, (mxN r n).1, (mxN r n).2) := h
 rw [h']
 rfl
theorem minFunc_eq {r : Nat → Int × Int} (h1 : 1 ≤ n) (hn : n ≤ 1048576) (hr : ∀ i, i < n → isRat (r i) = true) : slices_MinFunc_Limpl_Rat_impl_Rat (tab n r) (fun x0 x1 => impl_compare x0 x1) = some (mnN r n) := by
 have h := loop_idx (body := slices_MinFunc_Limpl_Rat_impl_Rat_b1 (tab n r) (fun x0 x1 => impl_compare x0 x1)) (n - 1) (fun i => ((mnN r (i + 1)).1, (mnN r (i + 1)).2, ((i + 1 : Nat) : Int))) (mnN r n) (fun i hi => by
  have hi' : i + 1 < n := by omega
  have b := mn_rat (hr 0 (by omega)) hr (i + 1) (by omega)
  simp only [slices_MinFunc_Limpl_Rat_impl_Rat_b1, tab_len, idxO_tab hi', Option.bind_some, show (((i + 1 : Nat) : Int) < (n : Int)) from by omega, decide_true, if_true, w64_nat (show i + 1 < 9223372036854775807 by omega)]
  rw [show ((mnN r (i + 1)).1, (mnN r (i + 1)).2) = mnN r (i + 1) from rfl, impl_compare_eq _ _ (tame_of (hr _ hi')) (tame_of b.1), Option.bind_some, cmp_lt, mnN_succ r (i + 1)]
  unfold minStep
  cases less (r (i + 1)) (mnN r (i + 1)) <;> simp) (by
  have e : n - 1 + 1 = n := by omega
  simp [slices_MinFunc_Limpl_Rat_impl_Rat_b1, tab_len, e])
 unfold slices_MinFunc_Limpl_Rat_impl_Rat slices_MinFunc_Limpl_Rat_impl_Rat_k1
 have hl : ¬ (n : Int) < 1 := by omega
 simp only [tab_len, hl, decide_false, Bool.false_eq_true, if_false]
 rw [show (0 : Int) = ((0 : Nat) : Int) from rfl, idxO_tab (by omega), Option.bind_some]
 simp only [Nat.zero_add, mnN_one] at h
 have h' : loopO (slices_MinFunc_Limpl_Rat_impl_Rat_b1 (tab n r) (fun x0 x1 => impl_compare x0 x1)) ((r 0).1, (r 0).2, 1) = some (mnN r n) := h
 rw [h']
 rfl
theorem maxFunc_eq {r : Nat → Int × Int} (h1 : 1 ≤ n) (hn : n ≤ 1048576) (hr : ∀ i, i < n → isRat (r i) = true) : slices_MaxFunc_Limpl_Rat_impl_Rat (tab n r) (fun x0 x1 => impl_compare x0 x1) = some (mxN r n) := by
 have h := loop_idx (body := slices_MaxFunc_Limpl_Rat_impl_Rat_b1 (tab n r) (fun x0 x1 => impl_compare x0 x1)) (n - 1) (fun i => ((mxN r (i + 1)).1, (mxN r (i + 1)).2, ((i + 1 : Nat) : Int))) (mxN r n) (fun i hi => by
  have hi' : i + 1 < n := by omega
  have b := mn_rat (hr 0 (by omega)) hr (i + 1) (by omega)
  simp only [slices_MaxFunc_Limpl_Rat_impl_Rat_b1, tab_len, idxO_tab hi', Option.bind_some, show (((i + 1 : Nat) : Int) < (n : Int)) from by omega, decide_true, if_true, w64_nat (show i + 1 < 9223372036854775807 by omega)]
  rw [show ((mxN r (i + 1)).1, (mxN r (i + 1)).2) = mxN r (i + 1) from rfl, impl_compare_eq _ _ (tame_of (hr _ hi')) (tame_of b.2), Option.bind_some, cmp_gt, mxN_succ r (i + 1)]
  unfold maxStep
  cases less (mxN r (i + 1)) (r (i + 1)) <;> simp) (by
  have e : n - 1 + 1 = n := by omega
  simp [slices_MaxFunc_Limpl_Rat_impl_Rat_b1, tab_len, e])
 unfold slices_MaxFunc_Limpl_Rat_impl_Rat slices_MaxFunc_Limpl_Rat_impl_Rat_k1
 have hl : ¬ (n : Int) < 1 := by omega
 simp only [tab_len, hl, decide_false, Bool.false_eq_true, if_false]
 rw [show (0 : Int) = ((0 : Nat) : Int) from rfl, idxO_tab (by omega), Option.bind_some]
 simp only [Nat.zero_add, mxN_one] at h
 have h' : loopO (slices_MaxFunc_Limpl_Rat_impl_Rat_b1 (tab n r) (fun x0 x1 => impl_compare x0 x1)) ((r 0).1, (r 0).2, 1) = some (mxN r n) := h
 rw [h']
 rfl
theorem impl_ratioBounds_eq (h1 : 1 ≤ n) (hn : n ≤ 8) (hG : ∀ i j, i < n → j < n → 0 ≤ G i j ∧ G i j ≤ 9) (hv : ∀ j, j < n → 1 ≤ v j ∧ v j ≤ 1000000) :
  impl_ratioBounds (mat n n G) (tab n v) = some (mnN (ratN G v n) n, mxN (ratN G v n) n) := by
 have hr : ∀ i, i < n → isRat (ratN G v n i) = true := fun i hi => ratN_rat hn hG hv hi
 have h := loop_idx (body := impl_ratioBounds_b1 (tab n v) (tab n fun i => dotN (G i) v n)) n (fun i => (tab i (ratN G v n), (i : Int))) (tab n (ratN G v n)) (fun i hi => by
  have b := dotN_bound n (Nat.le_refl n) (fun j hj => hG i j hi hj) hv
  have c := hv i hi
  simp only [impl_ratioBounds_b1, tab_len, idxO_tab hi, Option.bind_some, show ((i : Int) < (n : Int)) from by omega, decide_true, if_true, impl_lowest_eq _ _ (show v i ≠ 0 by omega) (show -9223372036854775808 < dotN (G i) v n by omega) (by omega) (by omega) (by omega), w64_nat (show i < 9223372036854775807 by omega)]
  rw [guardO_bind_pos (by simp; omega), ← tab_succ i (ratN G v n)]
  rfl) (by simp [impl_ratioBounds_b1, tab_len])
 unfold impl_ratioBounds
 rw [impl_times_eq hn hG hv, Option.bind_some]
 have h' : loopO (impl_ratioBounds_b1 (tab n v) (tab n fun i => dotN (G i) v n)) ([], 0) = some (tab n (ratN G v n)) := h
 rw [h', Option.bind_some]
 simp only [impl_ratioBounds_k1, minFunc_eq h1 (by omega) hr, maxFunc_eq h1 (by omega) hr, Option.bind_some]
end
def asked (g : List (List Int)) (u : List Int) : Bool := isGraph g && (isVec u && ((u.length : Int) == (g.length : Int)))
end Go.PV

/-
 Plain laws: lists turned round, ones.
 Conditions: none.
-/
set_option linter.all false
namespace Go.PV
section
variable {α : Type} [Inhabited α]
def revSt (xs : List α) (k : Nat) : List α := tab xs.length fun p => if p < k ∨ xs.length ≤ p + k then xs.getD (xs.length - 1 - p) default else xs.getD p default
end
theorem mul_1_0 : math_bits_Mul 1 0 = some (0, 0) := by kernel_rfl
theorem mul_1_1 : math_bits_Mul 1 1 = some (0, 1) := by kernel_rfl
theorem mul_1_2 : math_bits_Mul 1 2 = some (0, 2) := by kernel_rfl
theorem mul_1_3 : math_bits_Mul 1 3 = some (0, 3) := by kernel_rfl
theorem mul_1_4 : math_bits_Mul 1 4 = some (0, 4) := by kernel_rfl
theorem mul_1_5 : math_bits_Mul 1 5 = some (0, 5) := by kernel_rfl
theorem mul_1_6 : math_bits_Mul 1 6 = some (0, 6) := by kernel_rfl
theorem mul_1_7 : math_bits_Mul 1 7 = some (0, 7) := by kernel_rfl
theorem mul_1_8 : math_bits_Mul 1 8 = some (0, 8) := by kernel_rfl
theorem mul_one (n : Nat) (hn : n ≤ 8) : math_bits_Mul 1 (n : Int) = some (0, (n : Int)) := by
 match n, hn with
 | 0, _ => exact mul_1_0
 | 1, _ => exact mul_1_1
 | 2, _ => exact mul_1_2
 | 3, _ => exact mul_1_3
 | 4, _ => exact mul_1_4
 | 5, _ => exact mul_1_5
 | 6, _ => exact mul_1_6
 | 7, _ => exact mul_1_7
 | 8, _ => exact mul_1_8
 | n + 9, h => omega
theorem rep_copy (n m : Nat) (h1 : 1 ≤ m) (h2 : m < n) : copyAt (List.replicate m (1 : Int) ++ List.replicate (n - m) 0) m ((List.replicate m (1 : Int) ++ List.replicate (n - m) 0).take m) = List.replicate (m + min m (n - m)) 1 ++ List.replicate (n - (m + min m (n - m))) 0 := by
 have hlen : (List.replicate m (1 : Int) ++ List.replicate (n - m) 0).length = n := by simp; omega
 unfold copyAt
 rw [hlen]
 have t1 : (List.replicate m (1 : Int) ++ List.replicate (n - m) 0).take m = List.replicate m 1 := by simp
 rw [t1]
 simp only [List.length_replicate, List.take_replicate, List.drop_append, List.drop_replicate]
 rw [show m - (m + min m (n - m)) = 0 from by omega, show n - m - (m + min m (n - m) - m) = n - (m + min m (n - m)) from by omega, List.replicate_zero, List.nil_append, List.replicate_append_replicate]
 rw [show min (n - m) m = min m (n - m) from by omega]
theorem rep_loop (n : Nat) (hn : n ≤ 8) : ∀ k m, n - m ≤ k → 1 ≤ m → m ≤ n → loopO slices_Repeat_Lint_int_b1 (List.replicate m (1 : Int) ++ List.replicate (n - m) 0, (m : Int)) = some (List.replicate n 1)
 | 0, m, hk, h1, h2 => by
  have : m = n := by omega
  subst this
  rw [loopO_eq]
  simp [slices_Repeat_Lint_int_b1]
 | k + 1, m, hk, h1, h2 => by
  by_cases h : m = n
  ·subst h
   rw [loopO_eq]
   simp [slices_Repeat_Lint_int_b1]
  ·rw [loopO_eq]
   have hlen : (List.replicate m (1 : Int) ++ List.replicate (n - m) 0).length = n := by simp; omega
   have ih := rep_loop n hn k (m + min m (n - m)) (by omega) (by omega) (by omega)
   simp only [slices_Repeat_Lint_int_b1, hlen, show ((m : Int) < (n : Int)) from by omega, decide_true, if_true, Int.toNat_natCast]
   rw [guardO_bind_pos (by omega), rep_copy n m h1 (by omega)]
   have : w64 ((m : Int) + ((min m (n - m) : Nat) : Int)) = ((m + min m (n - m) : Nat) : Int) := by rw [w64_id (by omega) (by omega)]; omega
   simp only [this]
   exact ih
theorem ones_eq (n : Nat) (h1 : 1 ≤ n) (hn : n ≤ 8) : slices_Repeat_Lint_int [1] (n : Int) = some (List.replicate n 1) := by
 unfold slices_Repeat_Lint_int
 have e1 : ¬ ((n : Int) < 0) := by omega
 simp only [e1, decide_false, Bool.false_eq_true, if_false]
 unfold slices_Repeat_Lint_int_k1
 have e2 : IntKind.wrap .u64 ((([1] : List Int).length : Nat) : Int) = 1 := rfl
 have e3 : IntKind.wrap .u64 (n : Int) = (n : Int) := by
  have := IntWalk.u64_in (n : Int) ⟨by omega, by omega⟩
  exact this
 rw [e2, e3, mul_one n hn, Option.bind_some]
 have e4 : ¬ ((n : Int) > 9223372036854775807) := by omega
 simp only [show ¬ ((0 : Int) > 0) from by omega, e4, decide_false, Bool.or_self, Bool.false_eq_true, if_false]
 unfold slices_Repeat_Lint_int_k2
 have e5 : IntKind.wrap .i64 (n : Int) = (n : Int) := w64_id (by omega) (by omega)
 simp only [e5, Int.toNat_natCast]
 rw [guardO_bind_pos (by omega)]
 have e6 : copyAt (List.replicate n (0 : Int)) 0 [1] = List.replicate 1 (1 : Int) ++ List.replicate (n - 1) 0 := by
  obtain ⟨k, rfl⟩ : ∃ k, n = k + 1 := ⟨n - 1, by omega⟩
  simp [copyAt]
  first | done | (rw [show 1 - (k + 1) = 0 from by omega]; first | done | (rw [show min 1 (k + 1) = 1 from by omega]; first | done | simp))
 have e7 : (((min ([1] : List Int).length (List.replicate n (0 : Int)).length : Nat)) : Int) = ((1 : Nat) : Int) := by simp; omega
 rw [e6, e7, rep_loop n hn n 1 (by omega) (by omega) h1]
 rfl
theorem spec_ones (a : List (List Int)) (n : Nat) (hn : n ≤ 1048576) {body : (List Int × Int) → Option ((List Int × Int) ⊕ List Int)}
  (hb : ∀ x, body x = if (decide (x.2 < ((List.replicate (Int.toNat (n : Int)) (0 : Int)).length : Int))) = true then (idxO x.1 x.2).bind fun v9 => some (.inl ((x.1.set (Int.toNat x.2) 1), (w64 (x.2 + 1)))) else some (.inr x.1)) :
  loopO body (List.replicate n (0 : Int), 0) = some (List.replicate n 1) := by
 have hx := loop_idx (body := body) n (fun i => (tab n (fun k => if k < i then (1 : Int) else 0), (i : Int))) (List.replicate n 1) (fun i hi => by
  rw [hb]
  simp only [Int.toNat_natCast, List.length_replicate, show ((i : Int) < (n : Int)) from by omega, decide_true, if_true, idxO_tab hi, Option.bind_some, tab_set hi, w64_nat (show i < 9223372036854775807 by omega)]
  congr 3
  refine tab_ext fun k _ => ?_
  by_cases h : k = i
  ·subst h; simp
  ·simp only [h, if_false]
   by_cases h2 : k < i
   ·rw [if_pos h2, if_pos (by omega)]
   ·rw [if_neg h2, if_neg (by omega)]) (by
  rw [hb]
  simp only [Int.toNat_natCast, List.length_replicate, Int.lt_irrefl, decide_false, Bool.false_eq_true, if_false]
  congr 2
  rw [rep_tab]
  exact tab_ext fun k hk => by rw [if_pos hk])
 rw [rep_tab]
 exact hx
theorem ones_tab (n : Nat) : List.replicate n (1 : Int) = tab n fun _ => 1 := rep_tab n 1
def trimZ (c : List Int) : List Int := (c.reverse.dropWhile (· == 0)).reverse
end Go.PV

set_option linter.all false
namespace Go.PV
theorem cmp_le (a b : Int × Int) : decide (cmp a b ≤ 0) = !less b a := by
 unfold cmp less
 by_cases h1 : a.1 * b.2 < b.1 * a.2
 ·have : ¬ b.1 * a.2 < a.1 * b.2 := by omega
  simp [h1, this]
 ·by_cases h2 : a.1 * b.2 > b.1 * a.2
  ·have h3 : b.1 * a.2 < a.1 * b.2 := h2
   simp [h1, h3]
  ·have : ¬ b.1 * a.2 < a.1 * b.2 := by omega
   simp [h1, this]
end Go.PV

/-
 Plain laws: vectors of walks, bounds of growth.
 Conditions: none.
-/
set_option linter.all false
namespace Go.PV
theorem isVec_tab {n : Nat} {v : Nat → Int} (h1 : 1 ≤ n) (hn : n ≤ 8) : isVec (tab n v) = true ↔ ∀ j, j < n → 1 ≤ v j ∧ v j ≤ 1000000 := by
 unfold isVec
 rw [tab_len, Bool.and_eq_true, tab_all]
 constructor
 ·exact fun h j hj => inB_iff.1 (h.2 j hj)
 ·exact fun h => ⟨inB_iff.2 ⟨by omega, by omega⟩, fun j hj => inB_iff.2 (h j hj)⟩
def vk (G : Nat → Nat → Int) (n : Nat) : Nat → Nat → Int
 | 0 => fun _ => 1
 | k + 1 => fun j => dotN (G j) (vk G n k) n + vk G n k j
def mxg (G : Nat → Nat → Int) (n : Nat) : Nat → Nat
 | 0 => 0
 | k + 1 => if mxg G n k = k ∧ isVec (tab n (vk G n (k + 1))) = true then k + 1 else mxg G n k
section
variable {n : Nat} {G : Nat → Nat → Int}
theorem mxg_le : ∀ k, mxg G n k ≤ k
 | 0 => Nat.le_refl _
 | k + 1 => by
  have := mxg_le k
  unfold mxg; split <;> omega
theorem mxg_good (h1 : 1 ≤ n) (hn : n ≤ 8) : ∀ k i, i ≤ mxg G n k → isVec (tab n (vk G n i)) = true
 | 0, i, h => by
  have : i = 0 := by simpa [mxg] using h
  subst this
  exact (isVec_tab h1 hn).2 fun j _ => by simp [vk]
 | k + 1, i, h => by
  unfold mxg at h
  split at h
  ·rename_i hc
   by_cases hi : i = k + 1
   ·subst hi; exact hc.2
   ·exact mxg_good h1 hn k i (by omega)
  ·exact mxg_good h1 hn k i h
theorem mxg_stop : ∀ k, mxg G n k = k ∨ isVec (tab n (vk G n (mxg G n k + 1))) = false
 | 0 => .inl rfl
 | k + 1 => by
  unfold mxg
  split
  ·exact .inl rfl
  ·rename_i hc
   right
   rcases mxg_stop k with h | h
   ·rw [h]
    cases hv : isVec (tab n (vk G n (k + 1))) with
    | false => rfl
    | true => exact absurd ⟨h, hv⟩ hc
   ·exact h
theorem mxg_mono (h1 : 1 ≤ n) (hn : n ≤ 8) {k K : Nat} (hk : k ≤ K) : mxg G n k = min k (mxg G n K) := by
 have a := mxg_le (G := G) (n := n) k
 have b := mxg_good (G := G) h1 hn K
 rcases mxg_stop (G := G) (n := n) k with h | h
 ·rcases mxg_stop (G := G) (n := n) K with h2 | h2
  ·omega
  ·have : ¬ mxg G n K + 1 ≤ mxg G n k := fun hle => by
    have := mxg_good (G := G) h1 hn k _ hle
    rw [h2] at this; cases this
   omega
 ·have h3 : ¬ mxg G n k + 1 ≤ mxg G n K := fun hle => by
   have := b _ hle
   rw [h] at this; cases this
  rcases mxg_stop (G := G) (n := n) K with h2 | h2
  ·omega
  ·have : ¬ mxg G n K + 1 ≤ mxg G n k := fun hle => by
    have := mxg_good (G := G) h1 hn k _ hle
    rw [h2] at this; cases this
   omega
theorem vk_step (hn : n ≤ 8) (hG : ∀ i j, i < n → j < n → 0 ≤ G i j ∧ G i j ≤ 9) {v : Nat → Int} (hv : ∀ j, j < n → 1 ≤ v j ∧ v j ≤ 1000000) {j : Nat} (hj : j < n) : w64 (dotN (G j) v n + v j) = dotN (G j) v n + v j ∧ w64 (v j + dotN (G j) v n) = dotN (G j) v n + v j := by
 have b := dotN_bound n (Nat.le_refl n) (fun i hi => hG j i hj hi) hv
 have c := hv j hj
 exact ⟨w64_id (by omega) (by omega), by rw [w64_id (by omega) (by omega)]; omega⟩
theorem impl_wv2 (hn : n ≤ 8) (hG : ∀ i j, i < n → j < n → 0 ≤ G i j ∧ G i j ≤ 9) {v : Nat → Int} (hv : ∀ j, j < n → 1 ≤ v j ∧ v j ≤ 1000000) (l : List (List Int)) (m : Int) :
  loopO (impl_walkVectors_b2 (tab n v, l, m) (tab n fun j => dotN (G j) v n)) (tab n fun j => dotN (G j) v n, 0) = some (tab n fun j => dotN (G j) v n + v j) := by
 have h := loop_idx (body := impl_walkVectors_b2 (tab n v, l, m) (tab n fun j => dotN (G j) v n)) n (fun i => (tab n (fun j => if j < i then dotN (G j) v n + v j else dotN (G j) v n), (i : Int))) (tab n fun j => dotN (G j) v n + v j) (fun i hi => by
  simp only [impl_walkVectors_b2, tab_len, idxO_tab hi, Option.bind_some, show ((i : Int) < (n : Int)) from by omega, decide_true, if_true, Nat.lt_irrefl, if_false, w64_nat (show i < 9223372036854775807 by omega), Int.toNat_natCast, (vk_step hn hG hv hi).1, tab_set hi]
  congr 3
  refine tab_ext fun k hk => ?_
  by_cases h : k = i
  ·subst h; simp
  ·simp only [h, if_false]
   by_cases h2 : k < i
   ·rw [if_pos h2, if_pos (by omega)]
   ·rw [if_neg h2, if_neg (by omega)]) (by
  simp only [impl_walkVectors_b2, tab_len, Int.lt_irrefl, decide_false, Bool.false_eq_true, if_false]
  congr 2
  exact tab_ext fun k hk => by rw [if_pos hk])
 simpa using h
theorem spec_wv2 (hn : n ≤ 8) (hG : ∀ i j, i < n → j < n → 0 ≤ G i j ∧ G i j ≤ 9) {v : Nat → Int} (hv : ∀ j, j < n → 1 ≤ v j ∧ v j ≤ 1000000) :
  loopO (spec_gwWalks_b2 (tab n fun j => dotN (G j) v n)) (tab n v, 0) = some (tab n fun j => dotN (G j) v n + v j) := by
 have h := loop_idx (body := spec_gwWalks_b2 (tab n fun j => dotN (G j) v n)) n (fun i => (tab n (fun j => if j < i then dotN (G j) v n + v j else v j), (i : Int))) (tab n fun j => dotN (G j) v n + v j) (fun i hi => by
  simp only [spec_gwWalks_b2, tab_len, idxO_tab hi, Option.bind_some, show ((i : Int) < (n : Int)) from by omega, decide_true, if_true, Nat.lt_irrefl, if_false, w64_nat (show i < 9223372036854775807 by omega), Int.toNat_natCast, (vk_step hn hG hv hi).2, tab_set hi]
  congr 3
  refine tab_ext fun k hk => ?_
  by_cases h : k = i
  ·subst h; simp
  ·simp only [h, if_false]
   by_cases h2 : k < i
   ·rw [if_pos h2, if_pos (by omega)]
   ·rw [if_neg h2, if_neg (by omega)]) (by
  simp only [spec_gwWalks_b2, tab_len, Int.lt_irrefl, decide_false, Bool.false_eq_true, if_false]
  congr 2
  exact tab_ext fun k hk => by rw [if_pos hk])
 simpa using h
theorem impl_walkVectors_eq (h1 : 1 ≤ n) (hn : n ≤ 8) (hG : ∀ i j, i < n → j < n → 0 ≤ G i j ∧ G i j ≤ 9) (K : Nat) (hK : K ≤ 1048576) :
  impl_walkVectors (mat n n G) (K : Int) = some (tab (mxg G n K + 1) fun i => tab n (vk G n i)) := by
 have hle := mxg_le (G := G) (n := n) K
 have hx := loop_idx (body := impl_walkVectors_b1 (mat n n G) (K : Int)) (mxg G n K) (fun i => (tab n (vk G n i), tab (i + 1) (fun i => tab n (vk G n i)), (i : Int))) (tab (mxg G n K + 1) fun i => tab n (vk G n i)) (fun i hi => by
  have hv := (isVec_tab h1 hn).1 (mxg_good (G := G) h1 hn K i (by omega))
  have hv2 := mxg_good (G := G) h1 hn K (i + 1) (by omega)
  have e : (tab n fun j => dotN (G j) (vk G n i) n + vk G n i j) = tab n (vk G n (i + 1)) := rfl
  simp only [impl_walkVectors_b1, show ((i : Int) < (K : Int)) from by omega, decide_true, if_true, impl_times_eq hn hG hv, Option.bind_some, impl_wv2 hn hG hv, e, impl_walkVectors_k3]
  rw [impl_isVector_eq _ (by rw [tab_len]; omega), Option.bind_some, hv2]
  simp only [Bool.not_true, Bool.false_eq_true, if_false]
  rw [guardO_bind_pos (by rw [tab_len]; simp; omega)]
  simp only [impl_walkVectors_k2, w64_nat (show i < 9223372036854775807 by omega), tab_succ (i + 1) (fun i => tab n (vk G n i))]) (by
  rcases mxg_stop (G := G) (n := n) K with h | h
  ·have : ¬ (((mxg G n K : Nat) : Int) < (K : Int)) := by omega
   simp only [impl_walkVectors_b1, this, decide_false, Bool.false_eq_true, if_false]
  ·by_cases hlt : mxg G n K < K
   ·have hv := (isVec_tab h1 hn).1 (mxg_good (G := G) h1 hn K (mxg G n K) (Nat.le_refl _))
    have e : (tab n fun j => dotN (G j) (vk G n (mxg G n K)) n + vk G n (mxg G n K) j) = tab n (vk G n (mxg G n K + 1)) := rfl
    simp only [impl_walkVectors_b1, show (((mxg G n K : Nat) : Int) < (K : Int)) from by omega, decide_true, if_true, impl_times_eq hn hG hv, Option.bind_some, impl_wv2 hn hG hv, e, impl_walkVectors_k3]
    rw [impl_isVector_eq _ (by rw [tab_len]; omega), Option.bind_some, h]
    rfl
   ·have : ¬ (((mxg G n K : Nat) : Int) < (K : Int)) := by omega
    simp only [impl_walkVectors_b1, this, decide_false, Bool.false_eq_true, if_false])
 unfold impl_walkVectors
 rw [mat_len, ones_eq n h1 hn, Option.bind_some, ones_tab]
 have hx' : loopO (impl_walkVectors_b1 (mat n n G) (K : Int)) (tab n (fun _ => (1 : Int)), [tab n (fun _ => (1 : Int))], 0) = some (tab (mxg G n K + 1) fun i => tab n (vk G n i)) := hx
 rw [hx']
 rfl
theorem spec_gwWalks_eq (h1 : 1 ≤ n) (hn : n ≤ 8) (hG : ∀ i j, i < n → j < n → 0 ≤ G i j ∧ G i j ≤ 9) (K : Nat) (hK : K ≤ 1048576) :
  spec_gwWalks (mat n n G) (K : Int) = some (if mxg G n K = K then (tab n (vk G n K), true) else ([], false)) := by
 have hle := mxg_le (G := G) (n := n) K
 have hx := loop_idx (body := spec_gwWalks_b1 (mat n n G)) (mxg G n K) (fun i => ((K : Int) - i, tab n (vk G n i))) (if mxg G n K = K then .inr (tab n (vk G n K)) else .inl ([], false)) (fun i hi => by
  have hv := (isVec_tab h1 hn).1 (mxg_good (G := G) h1 hn K i (by omega))
  have hv2 := mxg_good (G := G) h1 hn K (i + 1) (by omega)
  have e : (tab n fun j => dotN (G j) (vk G n i) n + vk G n i j) = tab n (vk G n (i + 1)) := rfl
  simp only [spec_gwWalks_b1, show ((K : Int) - (i : Int) > 0) from by omega, decide_true, if_true, spec_gwTimes_eq hn hG hv, Option.bind_some, spec_wv2 hn hG hv, e, spec_gwWalks_k4]
  rw [spec_gwVector_eq _ (by rw [tab_len]; omega), Option.bind_some, hv2]
  simp only [Bool.not_true, Bool.false_eq_true, if_false, spec_gwWalks_k3]
  rw [w64_id (by omega) (by omega)]
  congr 3
  omega) (by
  rcases mxg_stop (G := G) (n := n) K with h | h
  ·rw [if_pos h]
   have : ¬ ((K : Int) - (K : Int) > 0) := by omega
   simp only [spec_gwWalks_b1, h, this, decide_false, Bool.false_eq_true, if_false]
  ·by_cases hlt : mxg G n K < K
   ·have hv := (isVec_tab h1 hn).1 (mxg_good (G := G) h1 hn K (mxg G n K) (Nat.le_refl _))
    have e : (tab n fun j => dotN (G j) (vk G n (mxg G n K)) n + vk G n (mxg G n K) j) = tab n (vk G n (mxg G n K + 1)) := rfl
    rw [if_neg (by omega)]
    simp only [spec_gwWalks_b1, show ((K : Int) - ((mxg G n K : Nat) : Int) > 0) from by omega, decide_true, if_true, spec_gwTimes_eq hn hG hv, Option.bind_some, spec_wv2 hn hG hv, e, spec_gwWalks_k4]
    rw [spec_gwVector_eq _ (by rw [tab_len]; omega), Option.bind_some, h]
    rfl
   ·have hKK : mxg G n K = K := by omega
    rw [if_pos hKK]
    have : ¬ ((K : Int) - (K : Int) > 0) := by omega
    simp only [spec_gwWalks_b1, hKK, this, decide_false, Bool.false_eq_true, if_false])
 unfold spec_gwWalks
 rw [mat_len, guardO_bind_pos (by omega), Int.toNat_natCast, spec_ones (body := spec_gwWalks_b3 (mat n n G)) (mat n n G) n (by omega) (fun x => by simp only [spec_gwWalks_b3, mat_len]), Option.bind_some, ones_tab]
 unfold spec_gwWalks_k1
 have hx' : loopO (spec_gwWalks_b1 (mat n n G)) ((K : Int), tab n (fun _ => (1 : Int))) = some (if mxg G n K = K then .inr (tab n (vk G n K)) else .inl ([], false)) := by
  have e : ((K : Int) - ((0 : Nat) : Int)) = (K : Int) := by omega
  simp only [e] at hx
  exact hx
 rw [hx']
 by_cases h : mxg G n K = K
 ·rw [if_pos h, if_pos h]; rfl
 ·rw [if_neg h, if_neg h]; rfl
theorem spec_gwBest_eq (h1 : 1 ≤ n) (hn : n ≤ 8) (hG : ∀ i j, i < n → j < n → 0 ≤ G i j ∧ G i j ≤ 9) :
  spec_gwBest (mat n n G) = some (mnN (ratN G (vk G n (mxg G n 20)) n) n, mxN (ratN G (vk G n (mxg G n 20)) n) n, ((mxg G n 20 : Nat) : Int)) := by
 have hle := mxg_le (G := G) (n := n) 20
 have hx := loop_idx (body := spec_gwBest_b1 (mat n n G)) (mxg G n 20) (fun i => ((i : Int), tab n (vk G n i))) (((mxg G n 20 : Nat) : Int), tab n (vk G n (mxg G n 20))) (fun i hi => by
  have hm := mxg_mono (G := G) h1 hn (show i + 1 ≤ 20 by omega)
  simp only [spec_gwBest_b1, show ((i : Int) < 20) from by omega, decide_true, if_true, w64_nat (show i < 9223372036854775807 by omega), spec_gwWalks_eq h1 hn hG (i + 1) (by omega), Option.bind_some]
  rw [if_pos (show mxg G n (i + 1) = i + 1 by omega)]
  rfl) (by
  by_cases hlt : mxg G n 20 < 20
  ·have hm := mxg_mono (G := G) h1 hn (show mxg G n 20 + 1 ≤ 20 by omega)
   simp only [spec_gwBest_b1, show (((mxg G n 20 : Nat) : Int) < 20) from by omega, decide_true, if_true, w64_nat (show mxg G n 20 < 9223372036854775807 by omega), spec_gwWalks_eq h1 hn hG (mxg G n 20 + 1) (by omega), Option.bind_some]
   rw [if_neg (show ¬ mxg G n (mxg G n 20 + 1) = mxg G n 20 + 1 by omega)]
   rfl
  ·have : ¬ (((mxg G n 20 : Nat) : Int) < 20) := by omega
   simp only [spec_gwBest_b1, this, decide_false, Bool.false_eq_true, if_false])
 unfold spec_gwBest
 have h0 := spec_gwWalks_eq h1 hn hG 0 (by omega)
 rw [if_pos (show mxg G n 0 = 0 from rfl)] at h0
 have h0' : spec_gwWalks (mat n n G) 0 = some (tab n (vk G n 0), true) := h0
 rw [h0', Option.bind_some]
 have hx' : loopO (spec_gwBest_b1 (mat n n G)) (0, tab n (vk G n 0)) = some (((mxg G n 20 : Nat) : Int), tab n (vk G n (mxg G n 20))) := hx
 rw [hx', Option.bind_some]
 have hv := (isVec_tab h1 hn).1 (mxg_good (G := G) h1 hn 20 (mxg G n 20) (Nat.le_refl _))
 simp only [spec_gwBest_k1, spec_gwBounds_eq h1 hn hG hv, Option.bind_some]
def bestT (G : Nat → Nat → Int) (n : Nat) : (Int × Int) × (Int × Int) × Int × Bool := (mnN (ratN G (vk G n (mxg G n 20)) n) n, mxN (ratN G (vk G n (mxg G n 20)) n) n, ((mxg G n 20 : Nat) : Int), true)
theorem impl_BestGrowth_mat (h1 : 1 ≤ n) (hn : n ≤ 8) (hG : ∀ i j, i < n → j < n → 0 ≤ G i j ∧ G i j ≤ 9) (hgr : impl_isGraph (mat n n G) = some true) : impl_BestGrowth (mat n n G) = some (bestT G n) := by
 have hle := mxg_le (G := G) (n := n) 20
 have hv := (isVec_tab h1 hn).1 (mxg_good (G := G) h1 hn 20 (mxg G n 20) (Nat.le_refl _))
 unfold impl_BestGrowth
 have e0 : impl_walkVectors (mat n n G) 20 = _ := impl_walkVectors_eq h1 hn hG 20 (by omega)
 have e1 : w64 ((((tab (mxg G n 20 + 1) fun i => tab n (vk G n i)).length : Nat) : Int) - 1) = ((mxg G n 20 : Nat) : Int) := by rw [tab_len, w64_id (by omega) (by omega)]; omega
 rw [hgr, Option.bind_some]
 simp only [Bool.not_true, Bool.false_eq_true, if_false, e0, Option.bind_some, e1, idxO_tab (show mxg G n 20 < mxg G n 20 + 1 by omega), impl_ratioBounds_eq h1 hn hG hv]
 rfl
end
theorem both_BestGrowth (g : List (List Int)) (hg : sized g) : ∃ r, spec_BestGrowth g = some r ∧ impl_BestGrowth g = some r := by
 have e1 := spec_grGood_eq g hg
 have e2 := impl_isGraph_eq g hg
 cases h : isGraph g
 ·rw [h] at e1 e2
  exact ⟨((0, 0), (0, 0), 0, false), by simp [spec_BestGrowth, e1], by simp [impl_BestGrowth, e2]⟩
 ·rw [h] at e1 e2
  obtain ⟨n, G, h1, h2, rfl, hG⟩ := isGraph_mat h
  exact ⟨bestT G n, by simp only [spec_BestGrowth, e1, Option.bind_some, Bool.not_true, Bool.false_eq_true, if_false, spec_gwBest_eq h1 h2 hG]; rfl, impl_BestGrowth_mat h1 h2 hG e2⟩
theorem both_GrowsFaster (g h : List (List Int)) (hg : sized g) (hh : sized h) : ∃ r, spec_GrowsFaster g h = some r ∧ impl_GrowsFaster g h = some r := by
 have e1 := spec_grGood_eq g hg
 have e2 := impl_isGraph_eq g hg
 have e3 := spec_grGood_eq h hh
 have e4 := impl_isGraph_eq h hh
 have bad : ∀ x : List (List Int), impl_isGraph x = some false → impl_BestGrowth x = some ((0, 0), (0, 0), 0, false) := fun x hx => by simp [impl_BestGrowth, hx]
 obtain ⟨r1, a1, a2⟩ := both_BestGrowth g hg
 obtain ⟨r2, b1, b2⟩ := both_BestGrowth h hh
 cases hG : isGraph g
 ·rw [hG] at e1 e2
  exact ⟨(false, false), by simp [spec_GrowsFaster, e1], by simp [impl_GrowsFaster, bad g e2, b2]⟩
 ·cases hH : isGraph h
  ·rw [hG] at e1; rw [hH] at e3 e4
   exact ⟨(false, false), by simp [spec_GrowsFaster, e1, e3], by simp [impl_GrowsFaster, a2, bad h e4]⟩
  ·rw [hG] at e1 e2
   rw [hH] at e3 e4
   obtain ⟨n, G, h1, h2, rfl, h3⟩ := isGraph_mat hG
   obtain ⟨m, H, k1, k2, rfl, k3⟩ := isGraph_mat hH
   have hv := (isVec_tab h1 h2).1 (mxg_good (G := G) h1 h2 20 (mxg G n 20) (Nat.le_refl _))
   have hw := (isVec_tab k1 k2).1 (mxg_good (G := H) k1 k2 20 (mxg H m 20) (Nat.le_refl _))
   have hr := mn_rat (ratN_rat h2 h3 hv (i := 0) (by omega)) (fun i hi => ratN_rat h2 h3 hv hi) n (Nat.le_refl n)
   have hs := mn_rat (ratN_rat k2 k3 hw (i := 0) (by omega)) (fun i hi => ratN_rat k2 k3 hw hi) m (Nat.le_refl m)
   have i1 := impl_BestGrowth_mat h1 h2 h3 e2
   have i2 := impl_BestGrowth_mat k1 k2 k3 e4
   have s1 := spec_gwBest_eq h1 h2 h3
   have s2 := spec_gwBest_eq k1 k2 k3
   refine ⟨(less (mxN (ratN H (vk H m (mxg H m 20)) m) m) (mnN (ratN G (vk G n (mxg G n 20)) n) n), true), ?_, ?_⟩
   ·simp only [spec_GrowsFaster, e1, e3, Option.bind_some, Bool.not_true, Bool.false_eq_true, if_false, s1, s2]
    rw [spec_raCmp_eq _ _ (tame_of hr.1) (tame_of hs.2), Option.bind_some]
    have hc := cmp_le (mnN (ratN G (vk G n (mxg G n 20)) n) n) (mxN (ratN H (vk H m (mxg H m 20)) m) m)
    generalize cmp (mnN (ratN G (vk G n (mxg G n 20)) n) n) (mxN (ratN H (vk H m (mxg H m 20)) m) m) = c at hc
    generalize less (mxN (ratN H (vk H m (mxg H m 20)) m) m) (mnN (ratN G (vk G n (mxg G n 20)) n) n) = d at hc
    congr 2
    by_cases h0 : c ≤ 0
    ·have : ¬ c > 0 := by omega
     simp [h0] at hc
     simp [this, hc]
    ·have : c > 0 := by omega
     simp [h0] at hc
     simp [this, hc]
   ·simp only [impl_GrowsFaster, i1, i2, bestT, Option.bind_some, Bool.not_true, Bool.or_self, Bool.false_eq_true, if_false]
    rw [impl_less_eq _ _ (tame_of hs.2) (tame_of hr.1)]
    rfl
end Go.PV

/-
 Plain law: the product of a graph and a vector.
 Conditions: none.
-/
set_option linter.all false
namespace Go.PV
end Go.PV

/-
 Plain laws: sums, products and quotients of fractions, with what is too large told.
 Conditions: none.
-/
set_option linter.all false
namespace Go.PV
abbrev Rt := Int × Int
def unO : Option Rt → Rt × Bool
 | some r => (r, true)
 | none => ((0, 0), false)
def lowQ (n d : Int) : Option Rt := if (lowest n d).2 = true then some (lowest n d).1 else none
theorem lowest_form (n d : Int) : ∃ x : Rt, lowest n d = if isRat x = true then (x, true) else ((0, 0), false) := ⟨_, rfl⟩
theorem lowest_no {n d : Int} (h : (lowest n d).2 = false) : lowest n d = ((0, 0), false) := by
 obtain ⟨x, e⟩ := lowest_form n d
 rw [e] at h ⊢
 by_cases h2 : isRat x = true
 ·rw [if_pos h2] at h; cases h
 ·rw [if_neg h2]
theorem lowest_unO (n d : Int) : lowest n d = unO (lowQ n d) := by
 unfold lowQ
 cases h : (lowest n d).2
 ·rw [lowest_no h]; rfl
 ·have : lowest n d = ((lowest n d).1, (lowest n d).2) := rfl
  rw [this, h]; rfl
theorem lowest_rat {n d : Int} (h : (lowest n d).2 = true) : isRat (lowest n d).1 = true := by
 obtain ⟨x, e⟩ := lowest_form n d
 rw [e] at h ⊢
 by_cases h2 : isRat x = true
 ·rw [if_pos h2]; exact h2
 ·rw [if_neg h2] at h; cases h
theorem lowQ_rat {n d : Int} {r : Rt} (h : lowQ n d = some r) : isRat r = true := by
 unfold lowQ at h
 split at h
 ·rename_i h2; obtain rfl := Option.some.inj h; exact lowest_rat h2
 ·cases h
theorem spec_raMake_gen (n d : Int) (hd : d ≠ 0) (h1 : -4000000000000000000 ≤ n) (h2 : n ≤ 4000000000000000000) (h3 : -4000000000000000000 ≤ d) (h4 : d ≤ 4000000000000000000) : spec_raMake n d = some (unO (lowQ n d)) := by
 have hg : 0 < Int.gcd n d := Int.gcd_pos_of_ne_zero_right _ hd
 have hd0 : (d == 0) = false := by simpa using hd
 have hgl : (Int.gcd n d : Int) ≤ 4000000000000000000 := by
  have : Int.gcd n d ≤ d.natAbs := Nat.gcd_le_right _ (by omega)
  omega
 have e : Int.gcd (n.natAbs : Int) (d.natAbs : Int) = Int.gcd n d := rfl
 have key : ∀ g : Int, g ≠ 0 → spec_raMake_k1 n d g = some (if isRat (Int.tdiv n g, Int.tdiv d g) then ((Int.tdiv n g, Int.tdiv d g), true) else ((0, 0), false)) := fun g hg => by
  simp only [spec_raMake_k1, guardO_bind_pos hg, tdiv_w64 n g (by omega) (by omega) hg, tdiv_w64 d g (by omega) (by omega) hg, spec_raGood_eq, Option.bind_some]
  cases isRat (Int.tdiv n g, Int.tdiv d g) <;> rfl
 rw [← lowest_unO]
 unfold spec_raMake lowest
 simp only [hd0, Bool.false_eq_true, if_false, spec_l1Abs_eq n (by omega) (by omega), spec_l1Abs_eq d (by omega) (by omega), Option.bind_some, spec_raCommon_eq (n.natAbs : Int) (d.natAbs : Int) (by omega) (by omega), e]
 by_cases hneg : d < 0
 ·simp only [hneg, decide_true, if_true]
  rw [show (0 : Int) - (Int.gcd n d : Int) = -(Int.gcd n d : Int) by omega, w64_id (by omega) (by omega), key _ (by omega)]
 ·simp only [hneg, decide_false, Bool.false_eq_true, if_false]
  rw [key _ (by omega)]
def addQ (a b : Rt) : Option Rt := lowQ (a.1 * b.2 + b.1 * a.2) (a.2 * b.2)
def subQ (a b : Rt) : Option Rt := lowQ (a.1 * b.2 - b.1 * a.2) (a.2 * b.2)
def mulQ (a b : Rt) : Option Rt := lowQ (a.1 * b.1) (a.2 * b.2)
def divQ (a b : Rt) : Option Rt := if b.1 = 0 then none else lowQ (a.1 * b.2) (a.2 * b.1)
structure RB (a b : Rt) : Prop where
 m1 : -1000000000000000000 ≤ a.1 * b.2 ∧ a.1 * b.2 ≤ 1000000000000000000
 m2 : -1000000000000000000 ≤ b.1 * a.2 ∧ b.1 * a.2 ≤ 1000000000000000000
 m3 : -1000000000000000000 ≤ a.2 * b.2 ∧ a.2 * b.2 ≤ 1000000000000000000
 m4 : -1000000000000000000 ≤ a.1 * b.1 ∧ a.1 * b.1 ≤ 1000000000000000000
 ne : a.2 * b.2 ≠ 0
 m5 : -1000000000000000000 ≤ a.2 * b.1 ∧ a.2 * b.1 ≤ 1000000000000000000
section spec
variable {a b : Rt} (ha : isRat a = true) (hb : isRat b = true)
include ha hb
end spec
def cK (bad : Bool) : Option Rt → Rt × Bool
 | some r => (r, bad)
 | none => ((0, 1), true)
theorem isRat_one : isRat (1, 1) = true := by decide
theorem isRat_neg {a : Rt} (h : isRat a = true) : isRat (0 - a.1, a.2) = true := by
 obtain ⟨h1, h2, h3, h4, h5⟩ := isRat_iff.1 h
 refine isRat_iff.2 ⟨h1, h2, by show -1000000000 ≤ 0 - a.1; omega, by show 0 - a.1 ≤ _; omega, ?_⟩
 show Int.gcd (0 - a.1) a.2 = 1
 rw [Int.zero_sub, Int.neg_gcd]; exact h5
section impl
variable {a b : Rt} (bad : Bool) (ha : isRat a = true) (hb : isRat b = true)
include ha hb
end impl
def absR (r : Rt) : Rt := ((r.1.natAbs : Int), r.2)
def distQ (a b : Rt) : Option Rt := if less a b then subQ b a else subQ a b
theorem lowQ_neg {n d : Int} (hd : 0 < d) : lowQ (-n) d = (lowQ n d).map fun r => (-r.1, r.2) := by
 have hn : ¬ d < 0 := by omega
 have e : isRat (Int.tdiv (-n) (Int.gcd n d : Int), Int.tdiv d (Int.gcd n d : Int)) = isRat (Int.tdiv n (Int.gcd n d : Int), Int.tdiv d (Int.gcd n d : Int)) := by
  rw [Int.neg_tdiv]
  cases h : isRat (Int.tdiv n (Int.gcd n d : Int), Int.tdiv d (Int.gcd n d : Int))
  ·cases h2 : isRat (-Int.tdiv n (Int.gcd n d : Int), Int.tdiv d (Int.gcd n d : Int))
   ·rfl
   ·have := isRat_neg h2
    simp only [Int.zero_sub, Int.neg_neg] at this
    rw [h] at this; cases this
  ·have := isRat_neg h
   simp only [Int.zero_sub] at this
   exact this
 unfold lowQ lowest
 simp only [Int.neg_gcd, if_neg hn, e]
 cases isRat (Int.tdiv n (Int.gcd n d : Int), Int.tdiv d (Int.gcd n d : Int))
 ·rfl
 ·simp [Int.neg_tdiv]
end Go.PV

set_option linter.all false
namespace Go.PV
end Go.PV

/-
 Plain laws: maps of the interval.
 Conditions: none.
-/
set_option linter.all false
namespace Go.PV
section
variable {α β : Type}
end
def isMapT (n : Nat) (p : Nat → Pt) : Prop := (∀ i, i < n → coord (p i).1 = true ∧ coord (p i).2 = true) ∧ (∀ i, 0 < i → i < n → less (p (i - 1)).1 (p i).1 = true) ∧ (p 0).1 = (0, 1) ∧ (p (n - 1)).1 = (1, 1)
end Go.PV

/-
 Plain laws: the variation of a map.
 Conditions: none.
-/
set_option linter.all false
namespace Go.PV
def sumD (r : Nat → Rt) : Nat → Option Rt
 | 0 => some (0, 1)
 | k + 1 => (sumD r k).bind fun s => (distQ (r k) (r (k + 1))).bind fun d => addQ s d
end Go.PV

/-
 Plain laws: slopes and laps of a map.
 Conditions: none.
-/
set_option linter.all false
namespace Go.PV
structure LowOk (n d : Int) (r : Rt) : Prop where
 eq : lowQ n d = some r
 rat : isRat r = true
 num : r.1.natAbs ≤ n.natAbs
 den : 1 ≤ r.2 ∧ r.2 ≤ d
 pos : 0 < n → 0 < r.1
 neg : n < 0 → r.1 < 0
 zer : n = 0 → r.1 = 0
theorem lowQ_some_nonneg {n d : Int} (h1 : 0 ≤ n) (h2 : n ≤ 1000000000) (h3 : 1 ≤ d) (h4 : d ≤ 1000000000) : ∃ r, LowOk n d r := by
 have hg : 0 < Int.gcd n d := Int.gcd_pos_of_ne_zero_right _ (by omega)
 have hdn : ¬ d < 0 := by omega
 have hr := lowest_isRat h1 h2 h3 h4
 have e : lowest n d = if isRat (Int.tdiv n (Int.gcd n d : Int), Int.tdiv d (Int.gcd n d : Int)) = true then ((Int.tdiv n (Int.gcd n d : Int), Int.tdiv d (Int.gcd n d : Int)), true) else ((0, 0), false) := by
  unfold lowest; simp only [if_neg hdn]
 have hrat : isRat (Int.tdiv n (Int.gcd n d : Int), Int.tdiv d (Int.gcd n d : Int)) = true := by
  refine Classical.byContradiction fun hno => ?_
  rw [e, if_neg hno] at hr
  exact absurd hr (by decide)
 rw [if_pos hrat] at e
 have e1 : Int.tdiv n (Int.gcd n d : Int) = n / (Int.gcd n d : Int) := Int.tdiv_eq_ediv_of_nonneg h1
 have e2 : Int.tdiv d (Int.gcd n d : Int) = d / (Int.gcd n d : Int) := Int.tdiv_eq_ediv_of_nonneg (by omega)
 have hgn : 0 < n → (Int.gcd n d : Int) ≤ n := fun h => by
  have := Nat.gcd_le_left d.natAbs (show 0 < n.natAbs by omega)
  have e : Int.gcd n d = Nat.gcd n.natAbs d.natAbs := rfl
  omega
 refine ⟨_, ⟨by unfold lowQ; rw [e]; rfl, hrat, ?_, ⟨(isRat_iff.1 hrat).1, ?_⟩, fun h => ?_, fun h => by omega, fun h => by subst h; simp⟩⟩
 ·exact tdiv_bound _ _
 ·show Int.tdiv d _ ≤ d
  have := tdiv_bound d (Int.gcd n d : Int)
  have h5 := (isRat_iff.1 hrat).1
  simp only at h5
  omega
 ·show 0 < Int.tdiv n _
  rw [e1]
  exact Int.ediv_pos_of_pos_of_dvd h (by omega) (Int.gcd_dvd_left ..)
theorem lowQ_some {n d : Int} (h1 : -1000000000 ≤ n) (h2 : n ≤ 1000000000) (h3 : 1 ≤ d) (h4 : d ≤ 1000000000) : ∃ r, LowOk n d r := by
 by_cases hn : 0 ≤ n
 ·exact lowQ_some_nonneg hn h2 h3 h4
 ·obtain ⟨r, h⟩ := lowQ_some_nonneg (n := -n) (d := d) (by omega) (by omega) h3 h4
  have e := lowQ_neg (n := -n) (d := d) (by omega)
  rw [Int.neg_neg, h.eq] at e
  have hr := isRat_neg h.rat
  have := h.pos (by omega)
  have := h.num
  exact ⟨(-r.1, r.2), ⟨e, by rw [Int.zero_sub] at hr; exact hr, by show (-r.1).natAbs ≤ _; omega, h.den, fun h => by omega, fun h => by show -r.1 < 0; omega, fun h => by omega⟩⟩
theorem coord_bd {r : Rt} (h : coord r = true) : 0 ≤ r.1 ∧ r.1 ≤ r.2 ∧ 1 ≤ r.2 ∧ r.2 ≤ 100 := by
 simp only [coord, isUnit, Bool.and_eq_true, inB_iff, decide_eq_true_eq] at h
 have := isRat_iff.1 h.1.1
 omega
theorem mul_bd {a b A B : Int} (h1 : -A ≤ a) (h2 : a ≤ A) (h3 : -B ≤ b) (h4 : b ≤ B) (hA : 0 ≤ A) (hB : 0 ≤ B) : -(A * B) ≤ a * b ∧ a * b ≤ A * B := by
 have h5 : (a * b).natAbs ≤ A.natAbs * B.natAbs := by rw [Int.natAbs_mul]; exact Nat.mul_le_mul (by omega) (by omega)
 have h6 : ((A.natAbs * B.natAbs : Nat) : Int) = A * B := by rw [Int.natCast_mul]; rw [Int.natAbs_of_nonneg hA, Int.natAbs_of_nonneg hB]
 omega
def small (r : Rt) : Prop := isRat r = true ∧ -500 ≤ r.1 ∧ r.1 ≤ 500 ∧ 1 ≤ r.2 ∧ r.2 ≤ 100
theorem small_coord {r : Rt} (h : coord r = true) : small r := by
 have := coord_bd h
 exact ⟨coord_rat h, by omega, by omega, by omega, by omega⟩
theorem sub_small {a b : Rt} (ha : small a) (hb : small b) : ∃ r, LowOk (a.1 * b.2 - b.1 * a.2) (a.2 * b.2) r ∧ subQ a b = some r ∧ r.1.natAbs ≤ 100000 ∧ r.2 ≤ 10000 := by
 obtain ⟨_, a1, a2, a3, a4⟩ := ha
 obtain ⟨_, b1, b2, b3, b4⟩ := hb
 have m1 := mul_bd (a := a.1) (b := b.2) (A := 500) (B := 100) (by omega) (by omega) (by omega) (by omega) (by omega) (by omega)
 have m2 := mul_bd (a := b.1) (b := a.2) (A := 500) (B := 100) (by omega) (by omega) (by omega) (by omega) (by omega) (by omega)
 have m3 := mul_bd (a := a.2) (b := b.2) (A := 100) (B := 100) (by omega) (by omega) (by omega) (by omega) (by omega) (by omega)
 have p3 : 0 < a.2 * b.2 := Int.mul_pos (by omega) (by omega)
 obtain ⟨r, hr⟩ := lowQ_some (n := a.1 * b.2 - b.1 * a.2) (d := a.2 * b.2) (by omega) (by omega) (by omega) (by omega)
 have h5 := hr.num
 have h6 := hr.den
 exact ⟨r, hr, hr.eq, by omega, by omega⟩
def slopeQ (p q : Pt) : Rt := (((subQ q.2 p.2).bind fun u => (subQ q.1 p.1).bind fun v => divQ u v)).getD (0, 0)
structure SlopeOk (p q : Pt) (u v : Rt) : Prop where
 up : subQ q.2 p.2 = some u
 far : subQ q.1 p.1 = some v
 ru : isRat u = true
 rv : isRat v = true
 div : divQ u v = some (slopeQ p q)
 rs : isRat (slopeQ p q) = true
 ub : u.1.natAbs ≤ 100000 ∧ u.2 ≤ 10000
 vb : v.1.natAbs ≤ 10000 ∧ v.2 ≤ 10000
 vp : 0 < v.1
 sg : (0 < (slopeQ p q).1 ↔ 0 < u.1) ∧ ((slopeQ p q).1 < 0 ↔ u.1 < 0)
theorem slope_ok {p q : Pt} (hp1 : coord p.1 = true) (hp2 : small p.2) (hq1 : coord q.1 = true) (hq2 : small q.2) (hl : less p.1 q.1 = true) : ∃ u v, SlopeOk p q u v := by
 obtain ⟨u, hu, e1, u1, u2⟩ := sub_small hq2 hp2
 obtain ⟨v, hv, e2, v1', v2⟩ := sub_small (small_coord hq1) (small_coord hp1)
 have v1 : v.1.natAbs ≤ 10000 := by
  have h1 := hv.num
  obtain ⟨a1, a2, a3, a4⟩ := coord_bd hq1
  obtain ⟨b1, b2, b3, b4⟩ := coord_bd hp1
  have m1 := mul_bd (a := q.1.1) (b := p.1.2) (A := 100) (B := 100) (by omega) (by omega) (by omega) (by omega) (by omega) (by omega)
  have m2 := mul_bd (a := p.1.1) (b := q.1.2) (A := 100) (B := 100) (by omega) (by omega) (by omega) (by omega) (by omega) (by omega)
  have p1 : 0 ≤ q.1.1 * p.1.2 := Int.mul_nonneg a1 (by omega)
  have p2 : 0 ≤ p.1.1 * q.1.2 := Int.mul_nonneg b1 (by omega)
  omega
 have hlt : p.1.1 * q.1.2 < q.1.1 * p.1.2 := by simpa [less] using hl
 have hvp := hv.pos (by omega)
 have hud := hu.den
 have hvd := hv.den
 have m1 := mul_bd (a := u.1) (b := v.2) (A := 100000) (B := 10000) (by omega) (by omega) (by omega) (by omega) (by omega) (by omega)
 have m2 := mul_bd (a := u.2) (b := v.1) (A := 10000) (B := 10000) (by omega) (by omega) (by omega) (by omega) (by omega) (by omega)
 have m3 : 0 < u.2 * v.1 := Int.mul_pos (by omega) hvp
 obtain ⟨s, hs⟩ := lowQ_some (n := u.1 * v.2) (d := u.2 * v.1) (by omega) (by omega) (by omega) (by omega)
 have e3 : divQ u v = some s := by unfold divQ; rw [if_neg (by omega)]; exact hs.eq
 have e4 : slopeQ p q = s := by unfold slopeQ; rw [e1, e2]; simp [e3]
 refine ⟨u, v, ⟨e1, e2, hu.rat, hv.rat, by rw [e4]; exact e3, by rw [e4]; exact hs.rat, ⟨u1, u2⟩, ⟨v1, v2⟩, hvp, ?_⟩⟩
 rw [e4]
 have hv2 : 0 < v.2 := by omega
 rcases Int.lt_trichotomy u.1 0 with h | h | h
 ·have h1 : u.1 * v.2 < 0 := Int.mul_neg_of_neg_of_pos h hv2
  have := hs.neg h1
  constructor <;> constructor <;> omega
 ·have h1 : u.1 * v.2 = 0 := by rw [h, Int.zero_mul]
  have := hs.zer h1
  constructor <;> constructor <;> omega
 ·have h1 : 0 < u.1 * v.2 := Int.mul_pos h hv2
  have := hs.pos h1
  constructor <;> constructor <;> omega
section
variable {n : Nat} {p : Nat → Pt}
def slopesT (n : Nat) (p : Nat → Pt) : List Rt := tab (n - 1) fun i => slopeQ (p i) (p (i + 1))
def strictB (n : Nat) (p : Nat → Pt) : Bool := (slopesT n p).all fun s => !(s.1 == 0)
end
end Go.PV

/-
 Plain laws: values of maps and lifts.
 Conditions: none.
-/
set_option linter.all false
namespace Go.PV
structure Curve (n : Nat) (p : Nat → Pt) : Prop where
 lo : 2 ≤ n
 hi : n ≤ 12
 x : ∀ i, i < n → coord (p i).1 = true
 y : ∀ i, i < n → small (p i).2
 up : ∀ i, 0 < i → i < n → less (p (i - 1)).1 (p i).1 = true
 fst : (p 0).1 = (0, 1)
 lst : (p (n - 1)).1 = (1, 1)
def CR (bad : Bool) (o : Option Rt) (v : Rt × Bool) : Prop := isRat v.1 = true ∧ match o with
 | some r => v = (r, bad)
 | none => v.2 = true
section
variable {n : Nat} {p : Nat → Pt}
theorem Curve.piece (h : Curve n p) {i : Nat} (hi : i + 1 < n) : ∃ u v, SlopeOk (p i) (p (i + 1)) u v :=
 slope_ok (h.x i (by omega)) (h.y i (by omega)) (h.x (i + 1) hi) (h.y (i + 1) hi) (h.up (i + 1) (by omega) hi)
structure AtJ (n : Nat) (p : Nat → Pt) (x : Rt) (j : Nat) : Prop where
 lt : j < n
 bef : ∀ k, k < j → less (p k).1 x = true
 at' : less (p j).1 x = false
def onQ (p q : Pt) (x : Rt) : Option Rt := (subQ x p.1).bind fun far => (mulQ (slopeQ p q) far).bind fun up => addQ p.2 up
end
end Go.PV

/-
 Plain laws: values of lifts.
 Conditions: none.
-/
set_option linter.all false
namespace Go.PV
structure LiftT (n : Nat) (p : Nat → Pt) : Prop where
 cur : Curve n p
 mono : ∀ i, 0 < i → i < n → less (p i).2 (p (i - 1)).2 = false
 lstY : (p (n - 1)).2 = ((p 0).2.1 + (p 0).2.2, (p 0).2.2)
 by5 : ∀ i, i < n → -5 * (p i).2.2 ≤ (p i).2.1 ∧ (p i).2.1 ≤ 5 * (p i).2.2
def flr (x : Rt) : Int := floorDiv x.1 x.2
def part (x : Rt) : Rt := (x.1 - flr x * x.2, x.2)
structure PartOk (x : Rt) : Prop where
 rat : isRat (part x) = true
 lo : 0 ≤ (part x).1
 hi : (part x).1 < (part x).2
 spec : spec_raFloor x = some (flr x)
 impl : impl_floor x = some (flr x)
 bd : flr x * x.2 ≤ x.1 ∧ x.1 < flr x * x.2 + x.2
section
variable {n : Nat} {p : Nat → Pt}
open Classical in
noncomputable def atQ (n : Nat) (p : Nat → Pt) (x : Rt) : Option Rt := if h : ∃ j, AtJ n p x j then onQ (p (Classical.choose h - 1)) (p (Classical.choose h - 1 + 1)) x else none
noncomputable def liftQ (n : Nat) (p : Nat → Pt) (x : Rt) : Option Rt := (atQ n p (part x)).bind fun y => addQ y (flr x, 1)
end
end Go.PV

/-
 Plain laws: where a lift comes from.
 Conditions: none.
-/
set_option linter.all false
namespace Go.PV
def turnK (y x : Rt) : Int := if less (part x) (part y) = true then flr x - flr y - 1 else flr x - flr y
section
variable {n : Nat} {p : Nat → Pt}
def backQ (q r : Pt) (z : Rt) : Option Rt := (subQ z q.2).bind fun u => (divQ u (slopeQ q r)).bind fun v => addQ q.1 v
structure UpJ (n : Nat) (p : Nat → Pt) (z : Rt) (j : Nat) : Prop where
 pos : 0 < j
 lt : j < n
 bef : ∀ k, k < j → less (p k).2 z = true
 at' : less (p j).2 z = false
structure FlatJ (n : Nat) (p : Nat → Pt) (j : Nat) : Prop where
 pos : 0 < j
 lt : j < n
 same : ∀ k, j < k → k < n → (p (k - 1)).2 = (p k).2
 step : (p (j - 1)).2 ≠ (p j).2
section
variable (h : Curve n p) {z : Rt} (hz : isRat z = true)
include h hz
end
end
end Go.PV

/-
 Plain laws: what fractions stand for.
 Conditions: none.
-/
set_option linter.all false
namespace Go.PV
def val (r : Rt) : Rat := (r.1 : Rat) / (r.2 : Rat)
theorem cast_pos {d : Int} (h : 0 < d) : (0 : Rat) < (d : Rat) := by exact_mod_cast h
theorem val_mul {r : Rt} (h : 0 < r.2) : val r * (r.2 : Rat) = (r.1 : Rat) := by
 have := cast_pos h
 unfold val
 have h2 : (r.2 : Rat) ≠ 0 := by intro h3; rw [h3] at this; exact absurd this (by decide)
 grind
theorem lt_iff {a b c d : Int} (hb : 0 < b) (hd : 0 < d) {x y : Rat} (hx : x * (b : Rat) = (a : Rat)) (hy : y * (d : Rat) = (c : Rat)) : a * d < c * b ↔ x < y := by
 have pb := cast_pos hb
 have pd := cast_pos hd
 have e : ((a * d : Int) : Rat) < ((c * b : Int) : Rat) ↔ a * d < c * b := by exact_mod_cast Iff.rfl
 rw [← e, Rat.intCast_mul, Rat.intCast_mul, ← hx, ← hy]
 constructor
 ·intro h
  refine Classical.byContradiction fun hno => ?_
  have h1 : y ≤ x := by grind
  have h2 := Rat.mul_le_mul_of_nonneg_left h1 (Rat.le_of_lt (Rat.mul_pos pb pd))
  grind
 ·intro h
  have h2 := Rat.mul_lt_mul_of_pos_left h (Rat.mul_pos pb pd)
  grind
theorem less_val {a b : Rt} (ha : 0 < a.2) (hb : 0 < b.2) : less a b = true ↔ val a < val b := by
 rw [← lt_iff ha hb (val_mul ha) (val_mul hb)]
 simp [less]
theorem less_val_no {a b : Rt} (ha : 0 < a.2) (hb : 0 < b.2) : less a b = false ↔ val b ≤ val a := by
 have := less_val ha hb
 cases h : less a b
 ·rw [h] at this
  have : ¬ val a < val b := fun h1 => by have := this.2 h1; cases this
  exact ⟨fun _ => by grind, fun _ => rfl⟩
 ·rw [h] at this
  have := this.1 rfl
  exact ⟨fun h => (by cases h), fun h => (by grind)⟩
section
variable {a b r : Rt} (ha : isRat a = true) (hb : isRat b = true)
include ha hb
end
end Go.PV

/-
 Plain law: more steps give bounds that are no worse.
 Conditions: none.
-/
set_option linter.all false
namespace Go.PV
section
variable {n : Nat} {G : Nat → Nat → Int}
def lbd (G : Nat → Nat → Int) (n : Nat) (p q : Int) (v : Nat → Int) : Prop := ∀ i, i < n → p * v i ≤ q * dotN (G i) v n
def ubd (G : Nat → Nat → Int) (n : Nat) (p q : Int) (v : Nat → Int) : Prop := ∀ i, i < n → q * dotN (G i) v n ≤ p * v i
theorem less_ge {a b c : Int × Int} (ha : 0 < a.2) (hb : 0 < b.2) (hc : 0 < c.2) (h1 : less a b = false) (h2 : less b c = false) : less a c = false := by
 rw [less_val_no ha hb] at h1
 rw [less_val_no hb hc] at h2
 rw [less_val_no ha hc]
 exact Rat.le_trans h2 h1
theorem rat_pos {a : Int × Int} (h : isRat a = true) : 0 < a.2 := by have := (isRat_iff.1 h).1; omega
theorem mn_all {r : Nat → Int × Int} : ∀ k, (∀ i, i < k → isRat (r i) = true) → isRat (r 0) = true → ∀ i, i < k → less (r i) (mnN r k) = false ∧ less (mxN r k) (r i) = false
 | 0, _, _, i, hi => by omega
 | k + 1, h, h0, i, hi => by
  have hk := mn_rat h0 (fun i hi => h i hi) k (by omega)
  have hk' := mn_rat h0 (fun i hi => h i hi) (k + 1) (by omega)
  have hm : less (mnN r k) (mnN r (k + 1)) = false ∧ less (r k) (mnN r (k + 1)) = false := by
   rw [mnN_succ]; unfold minStep
   split
   ·rename_i hl; exact ⟨less_not hl, less_self _⟩
   ·rename_i hl; exact ⟨less_self _, by simpa using hl⟩
  have hx : less (mxN r (k + 1)) (mxN r k) = false ∧ less (mxN r (k + 1)) (r k) = false := by
   rw [mxN_succ]; unfold maxStep
   split
   ·rename_i hl; exact ⟨less_not hl, less_self _⟩
   ·rename_i hl; exact ⟨less_self _, by simpa using hl⟩
  by_cases hik : i = k
  ·subst hik; exact ⟨hm.2, hx.2⟩
  ·have ih := mn_all k (fun i hi => h i (by omega)) h0 i (by omega)
   have hi' := rat_pos (h i hi)
   exact ⟨less_ge hi' (rat_pos hk.1) (rat_pos hk'.1) ih.1 hm.1, less_ge (rat_pos hk'.2) (rat_pos hk.2) hi' hx.1 ih.2⟩
section
variable {v : Nat → Int}
end
theorem mn_le_mx (h1 : 1 ≤ n) (hn : n ≤ 8) (hG : ∀ i j, i < n → j < n → 0 ≤ G i j ∧ G i j ≤ 9) {v : Nat → Int} (hv : ∀ j, j < n → 1 ≤ v j ∧ v j ≤ 1000000) : less (mxN (ratN G v n) n) (mnN (ratN G v n) n) = false := by
 have hr : ∀ i, i < n → isRat (ratN G v n i) = true := fun i hi => ratN_rat hn hG hv hi
 have h := mn_all n hr (hr 0 (by omega)) 0 (by omega)
 have hb := mn_rat (hr 0 (by omega)) hr n (Nat.le_refl n)
 exact less_ge (rat_pos hb.2) (rat_pos (hr 0 (by omega))) (rat_pos hb.1) h.2 h.1
end
end Go.PV

/-
 Plain laws: what draws from bytes always comes to an end.
 Conditions: none.
-/
set_option linter.all false
namespace Go.PV
def Tot {α : Type} (o : Option α) (P : α → Prop) : Prop := ∃ r, o = some r ∧ P r
section
variable {α β : Type} {P : α → Prop} {Q : β → Prop}
theorem Tot.bind {o : Option α} {f : α → Option β} (h : Tot o P) (k : ∀ r, P r → Tot (f r) Q) : Tot (o.bind f) Q := by
 obtain ⟨r, rfl, hr⟩ := h
 exact k r hr
theorem Tot.mono {P' : α → Prop} {o : Option α} (h : Tot o P) (k : ∀ r, P r → P' r) : Tot o P' := by
 obtain ⟨r, h, hr⟩ := h
 exact ⟨r, h, k r hr⟩
theorem Tot.ret {r : α} (h : P r) : Tot (some r) P := ⟨r, rfl, h⟩
theorem Tot.ite {c : Bool} {x y : Option α} (h1 : c = true → Tot x P) (h2 : c = false → Tot y P) : Tot (if c = true then x else y) P := by
 cases c
 ·exact h2 rfl
 ·exact h1 rfl
theorem Tot.guard {p : Prop} [Decidable p] {f : Unit → Option α} (h : p) (k : Tot (f ()) P) : Tot ((guardO p).bind f) P := by
 rw [guardO_bind_pos h]; exact k
def Lp {X Y : Type} (I : X → Prop) (R : Y → Prop) : X ⊕ Y → Prop
 | .inl x => I x
 | .inr y => R y
theorem Tot.inl {X Y : Type} {I : X → Prop} {R : Y → Prop} {x : X} (h : I x) : Tot (some (Sum.inl x)) (Lp I R) := ⟨_, rfl, h⟩
theorem Tot.inr {X Y : Type} {I : X → Prop} {R : Y → Prop} {y : Y} (h : R y) : Tot (some (Sum.inr y)) (Lp I R) := ⟨_, rfl, h⟩
theorem Tot.loop {X Y : Type} {body : X → Option (X ⊕ Y)} {R : Y → Prop} (Inv : X → Prop) (μ : X → Nat)
  (h : ∀ x, Inv x → Tot (body x) (Lp (fun x' => Inv x' ∧ μ x' < μ x) R)) (x0 : X) (h0 : Inv x0) : Tot (loopO body x0) R := by
 obtain ⟨y, h1, h2⟩ := loop_run (body := body) Inv μ R (fun x hx => by
  obtain ⟨r, e, hr⟩ := h x hx
  cases r with
  | inl x' => exact .inl ⟨x', e, hr.1, hr.2⟩
  | inr y => exact .inr ⟨y, e, hr⟩) x0 h0
 exact ⟨y, h1, h2⟩
end
theorem Tot.idx {α β : Type} {xs : List α} {i : Int} {f : α → Option β} {Q : β → Prop} (h0 : 0 ≤ i) (h1 : i < xs.length) (k : ∀ x, x ∈ xs → Tot (f x) Q) : Tot ((idxO xs i).bind f) Q := by
 obtain ⟨m, rfl⟩ := Int.eq_ofNat_of_zero_le h0
 have hm : m < xs.length := by omega
 rw [idxO_lt hm, Option.bind_some]
 exact k _ (List.getElem_mem hm)
abbrev Cur := List Int × Int × Int
def Bytes (l : List Int) : Prop := l.length ≤ 9223372036854775807 ∧ ∀ b ∈ l, 0 ≤ b ∧ b ≤ 255
def Ck (B : Nat) (c : Cur) : Prop := Bytes c.1 ∧ 0 ≤ c.2.1 ∧ c.2.1 ≤ B
theorem Ck.mono {B B' : Nat} {c : Cur} (h : Ck B c) (hb : B ≤ B') : Ck B' c := ⟨h.1, h.2.1, by have := h.2.2; omega⟩
theorem ck0 {l : List Int} (h : Bytes l) : Ck 0 (l, 0, 0) := ⟨h, by simp, by simp⟩
theorem wrapU64 (n : Int) : IntKind.u64.wrap n = n % 18446744073709551616 := by simp [IntKind.wrap, IntKind.bits, IntKind.signed]
theorem wrap_i64 (n : Int) : IntKind.wrap .i64 n = w64 n := rfl
theorem iand_255 (x : Int) : 0 ≤ iand .u64 x 255 ∧ iand .u64 x 255 ≤ 255 := by
 unfold iand
 have h : ((BitVec.ofInt (IntKind.bits .u64) x) &&& (BitVec.ofInt (IntKind.bits .u64) 255)).toNat ≤ 255 := by
  rw [BitVec.toNat_and]
  have : (BitVec.ofInt (IntKind.bits .u64) 255).toNat = 255 := by decide
  rw [this]
  exact Nat.and_le_right
 rw [wrapU64, Int.emod_eq_of_lt (by omega) (by omega)]
 omega
theorem next_ok {B : Nat} {c : Cur} (h : Ck B c) (hB : B ≤ 1152921504606846976) : Tot (spec_l1Cur_next c) fun r => (0 ≤ r.1 ∧ r.1 ≤ 255) ∧ Ck (B + 1) r.2 := by
 obtain ⟨⟨hl, hb⟩, h0, h1⟩ := h
 have hw : w64 (c.2.1 + 1) = c.2.1 + 1 := w64_id (by omega) (by omega)
 have key : ∀ x : Int, 0 ≤ x → x ≤ 255 → Tot (spec_l1Cur_next_k1 c x) fun r => (0 ≤ r.1 ∧ r.1 ≤ 255) ∧ Ck (B + 1) r.2 := by
  intro x hx0 hx1
  unfold spec_l1Cur_next_k1
  rw [hw]
  refine Tot.ite (fun _ => Tot.ret ⟨⟨hx0, hx1⟩, ⟨hl, hb⟩, by show 0 ≤ c.2.1 + 1; omega, by show c.2.1 + 1 ≤ _; omega⟩) (fun _ => Tot.ret ⟨?_, ⟨hl, hb⟩, by show 0 ≤ c.2.1 + 1; omega, by show c.2.1 + 1 ≤ _; omega⟩)
  rw [wrap_i64]
  obtain ⟨a, b⟩ := iand_255 (ishr .u64 (IntKind.wrap .u64 ((IntKind.wrap .u64 ((IntKind.wrap .u64 (c.2.2 * 6364136223846793005)) + (IntKind.wrap .u64 x))) + 1442695040888963407)) 40)
  show 0 ≤ w64 _ ∧ w64 _ ≤ 255
  rw [w64_id (by omega) (by omega)]
  exact ⟨a, b⟩
 unfold spec_l1Cur_next
 refine Tot.ite (fun hc => ?_) (fun _ => key 0 (by omega) (by omega))
 have hlt : c.2.1 < (c.1.length : Int) := of_decide_eq_true hc
 refine Tot.idx h0 hlt fun x hx => ?_
 have := hb x hx
 rw [wrap_i64, w64_id (by omega) (by omega)]
 exact key x this.1 this.2
theorem tmod_rng {x n : Int} (hx : 0 ≤ x) (hn : 1 ≤ n) : 0 ≤ Int.tmod x n ∧ Int.tmod x n < n := by
 obtain ⟨a, rfl⟩ := Int.eq_ofNat_of_zero_le hx
 obtain ⟨b, rfl⟩ := Int.eq_ofNat_of_zero_le (show 0 ≤ n by omega)
 have : Int.tmod (a : Int) (b : Int) = ((a % b : Nat) : Int) := rfl
 rw [this]
 have := Nat.mod_lt a (show b > 0 by omega)
 omega
theorem pick_ok {B : Nat} {c : Cur} (h : Ck B c) (hB : B ≤ 1000000000000000000) (n : Int) : Tot (spec_l1Cur_pick c n) fun r => (0 ≤ r.1 ∧ (1 ≤ n → r.1 < n)) ∧ Ck (B + 2) r.2 := by
 unfold spec_l1Cur_pick
 refine Tot.ite (fun hc => Tot.ret ⟨⟨by show (0 : Int) ≤ 0; omega, fun h => by show (0 : Int) < n; omega⟩, h.mono (by omega)⟩) (fun hc => ?_)
 have hn : ¬ n ≤ 1 := of_decide_eq_false hc
 refine (next_ok h (by omega)).bind fun v2 ⟨⟨h1, h2⟩, h3⟩ => ?_
 refine Tot.ite (fun _ => ?_) (fun _ => ?_)
 ·refine (next_ok h3 (by omega)).bind fun v6 ⟨⟨h4, h5⟩, h6⟩ => ?_
  unfold spec_l1Cur_pick_k1
  refine Tot.guard (by omega) (Tot.ret ?_)
  have e : w64 ((w64 (v2.1 * 256)) + v6.1) = v2.1 * 256 + v6.1 := by rw [w64_id (n := v2.1 * 256) (by omega) (by omega), w64_id (by omega) (by omega)]
  have := tmod_rng (x := v2.1 * 256 + v6.1) (n := n) (by omega) (by omega)
  simp only [e]
  exact ⟨⟨this.1, fun _ => this.2⟩, h6⟩
 ·unfold spec_l1Cur_pick_k1
  refine Tot.guard (by omega) (Tot.ret ?_)
  have := tmod_rng (x := v2.1) (n := n) (by omega) (by omega)
  exact ⟨⟨this.1, fun _ => this.2⟩, h3.mono (by omega)⟩
theorem one_ok {B : Nat} {c : Cur} (h : Ck B c) (hB : B ≤ 1000000000000000000) (n : Int) : Tot (spec_l1Cur_one c n) fun r => Ck (B + 2) r.2 := by
 unfold spec_l1Cur_one
 exact (pick_ok h hB n).bind fun v h => Tot.ret h.2
theorem among_ok {B : Nat} {c : Cur} (h : Ck B c) (hB : B ≤ 1000000000000000000) (l : List Int) (hl : l ≠ []) : Tot (spec_l1Cur_among c l) fun r => r.1 ∈ l ∧ Ck (B + 2) r.2 := by
 unfold spec_l1Cur_among
 refine (pick_ok h hB _).bind fun v ⟨⟨h1, h2⟩, h3⟩ => ?_
 have : 0 < l.length := List.length_pos_iff.2 hl
 refine Tot.idx h1 (h2 (by omega)) fun x hx => Tot.ret ⟨hx, h3⟩
end Go.PV
namespace Go.PV
def cur4 {α : Type} (x : List Int × Int × Int × α) : Cur := (x.1, x.2.1, x.2.2.1)
def En (l : List Int) : Prop := ∀ x ∈ l, 0 ≤ x ∧ x ≤ 9
theorem En.app {l : List Int} {x : Int} (h : En l) (h0 : 0 ≤ x) (h9 : x ≤ 9) : En (l ++ [x]) := fun y hy => by
 rcases List.mem_append.1 hy with h' | h'
 ·exact h y h'
 ·rw [List.mem_singleton.1 h']; exact ⟨h0, h9⟩
theorem En.set {l : List Int} {i : Nat} {x : Int} (h : En l) (h0 : 0 ≤ x) (h9 : x ≤ 9) : En (l.set i x) := fun y hy => by
 rcases List.mem_or_eq_of_mem_set hy with h' | rfl
 ·exact h y h'
 ·exact ⟨h0, h9⟩
theorem graph_row {B : Nat} (hB : B ≤ 1000000000) {x2 : List Int × Int × Int × Int} {v3 : Int × Cur} {x26 : List Int × Int × Int × List (List Int) × Int} (h1 : 1 ≤ x2.2.2.2) (h8 : x2.2.2.2 ≤ 8)
  (hc : Ck B (cur4 x26)) : Tot (loopO (spec_l1Cur_graph_b4 x2 v3 x26) (x26.1, x26.2.1, x26.2.2.1, [], 0)) fun y => ((y.2.2.2.length : Int) = x2.2.2.2 ∧ En y.2.2.2) ∧ Ck (B + 40) (cur4 y) := by
 refine Tot.loop (fun x => (0 ≤ x.2.2.2.2 ∧ x.2.2.2.2 ≤ x2.2.2.2) ∧ ((x.2.2.2.1.length : Int) = x.2.2.2.2 ∧ En x.2.2.2.1) ∧ Ck (B + 4 * x.2.2.2.2.toNat) (cur4 x)) (fun x => (x2.2.2.2 - x.2.2.2.2).toNat) (fun x ⟨⟨i0, i1⟩, ⟨il, ie⟩, ic⟩ => ?_) _ ⟨⟨by simp, by show (0 : Int) ≤ _; omega⟩, ⟨by simp, fun x hx => by simp at hx⟩, by simpa [cur4] using hc⟩
 obtain ⟨c1, c2, c3, row, k⟩ := x
 simp only [cur4] at i0 i1 il ie ic ⊢
 unfold spec_l1Cur_graph_b4
 refine Tot.ite (fun hk => ?_) (fun hk => ?_)
 ·have hk' : k < x2.2.2.2 := of_decide_eq_true hk
  have fin : ∀ (x35 : List Int × Int × Int × Int), (0 ≤ x35.2.2.2 ∧ x35.2.2.2 ≤ 9) → Ck (B + 4 * k.toNat + 4) (cur4 x35) → Tot (spec_l1Cur_graph_k8 (c1, c2, c3, row, k) x35) (Lp (fun x' => ((0 ≤ x'.2.2.2.2 ∧ x'.2.2.2.2 ≤ x2.2.2.2) ∧ ((x'.2.2.2.1.length : Int) = x'.2.2.2.2 ∧ En x'.2.2.2.1) ∧ Ck (B + 4 * x'.2.2.2.2.toNat) (x'.1, x'.2.1, x'.2.2.1)) ∧ (x2.2.2.2 - x'.2.2.2.2).toNat < (x2.2.2.2 - k).toNat)
    (fun y => ((y.2.2.2.length : Int) = x2.2.2.2 ∧ En y.2.2.2) ∧ Ck (B + 40) (y.1, y.2.1, y.2.2.1))) := by
   intro x35 hx h35
   unfold spec_l1Cur_graph_k8
   refine Tot.guard (by simp; omega) (Tot.inl ?_)
   have hw : w64 (k + 1) = k + 1 := w64_id (by omega) (by omega)
   simp only [hw]
   refine ⟨⟨⟨by omega, by omega⟩, ⟨by simp; omega, ie.app hx.1 hx.2⟩, h35.mono (by omega)⟩, by omega⟩
  refine (one_ok ic (by omega) _).bind fun v37 h37 => ?_
  refine Tot.bind (P := fun _ => True) ?_ fun w39 _ => ?_
  ·refine Tot.ite (fun _ => Tot.ret trivial) (fun _ => Tot.ite (fun _ => Tot.guard (by omega) (Tot.ret trivial)) (fun _ => Tot.ret trivial))
  ·refine Tot.ite (fun _ => ?_) (fun _ => fin (v37.2.1, v37.2.2.1, v37.2.2.2, 0) (by simp) (Ck.mono (B := B + 4 * k.toNat + 2) h37 (by omega)))
   exact (among_ok h37 (by omega) _ (by simp)).bind fun v41 ⟨m41, h41⟩ => fin (v41.2.1, v41.2.2.1, v41.2.2.2, v41.1) (by simp only [List.mem_cons, List.not_mem_nil, or_false] at m41; show 0 ≤ v41.1 ∧ v41.1 ≤ 9; omega) h41
 ·have hk' : ¬ k < x2.2.2.2 := of_decide_eq_false hk
  exact Tot.inr ⟨⟨by show (row.length : Int) = _; omega, ie⟩, ic.mono (by omega)⟩
def Sq (n : Int) (g : List (List Int)) : Prop := (g.length : Int) = n ∧ ∀ row ∈ g, (row.length : Int) = n ∧ En row
theorem mem_set {α : Type} {xs : List α} {i : Nat} {a x : α} (h : x ∈ xs.set i a) : x ∈ xs ∨ x = a := List.mem_or_eq_of_mem_set h
theorem Sq.set {n : Int} {g : List (List Int)} (h : Sq n g) {i : Nat} {row : List Int} (hr : (row.length : Int) = n ∧ En row) : Sq n (g.set i row) := ⟨by rw [List.length_set]; exact h.1, fun r hr' => by
 rcases mem_set hr' with h' | rfl
 ·exact h.2 r h'
 ·exact hr⟩
theorem graph_rows {B : Nat} (hB : B ≤ 100000000) {x2 : List Int × Int × Int × Int} {v3 : Int × Cur} (h1 : 1 ≤ x2.2.2.2) (h8 : x2.2.2.2 ≤ 8) (hc : Ck B v3.2) :
  Tot (loopO (spec_l1Cur_graph_b3 x2 v3) (v3.2.1, v3.2.2.1, v3.2.2.2, [], 0)) fun y => Sq x2.2.2.2 y.2.2.2 ∧ Ck (B + 400) (cur4 y) := by
 refine Tot.loop (fun x => (0 ≤ x.2.2.2.2 ∧ x.2.2.2.2 ≤ x2.2.2.2) ∧ ((x.2.2.2.1.length : Int) = x.2.2.2.2 ∧ ∀ row ∈ x.2.2.2.1, (row.length : Int) = x2.2.2.2 ∧ En row) ∧ Ck (B + 40 * x.2.2.2.2.toNat) (cur4 x)) (fun x => (x2.2.2.2 - x.2.2.2.2).toNat) (fun x ⟨⟨i0, i1⟩, ⟨il, ir⟩, ic⟩ => ?_) _ ⟨⟨by simp, by show (0 : Int) ≤ _; omega⟩, ⟨by simp, by simp⟩, by simpa [cur4] using hc⟩
 obtain ⟨c1, c2, c3, out, k⟩ := x
 simp only [cur4] at i0 i1 il ir ic ⊢
 unfold spec_l1Cur_graph_b3
 refine Tot.ite (fun hk => ?_) (fun hk => ?_)
 ·have hk' : k < x2.2.2.2 := of_decide_eq_true hk
  refine (graph_row (x26 := (c1, c2, c3, out, k)) (by omega) h1 h8 ic).bind fun y ⟨hy, hyc⟩ => ?_
  unfold spec_l1Cur_graph_k7 spec_l1Cur_graph_k6
  refine Tot.guard (by simp; omega) (Tot.inl ?_)
  have hw : w64 (k + 1) = k + 1 := w64_id (by omega) (by omega)
  simp only [hw]
  refine ⟨⟨⟨by omega, by omega⟩, ⟨by simp; omega, fun row hr => ?_⟩, hyc.mono (by omega)⟩, by omega⟩
  rcases List.mem_append.1 hr with h | h
  ·exact ir row h
  ·rw [List.mem_singleton.1 h]; exact hy
 ·have hk' : ¬ k < x2.2.2.2 := of_decide_eq_false hk
  exact Tot.inr ⟨⟨by show (out.length : Int) = _; omega, ir⟩, ic.mono (by omega)⟩
theorem graph_full {n : Int} (h1 : 1 ≤ n) (h8 : n ≤ 8) {x5 : List Int × Int × Int × List (List Int)} {v7 : Bool × Cur} (hs : Sq n x5.2.2.2) :
  Tot (loopO (spec_l1Cur_graph_b1 x5 v7) (x5.2.2.2, 0)) fun y => Sq n y.2.2.2 ∧ cur4 y = v7.2 := by
 refine Tot.loop (fun x => Sq n x.1 ∧ 0 ≤ x.2 ∧ x.2 ≤ n) (fun x => (n - x.2).toNat) (fun x ⟨hx, i0, i1⟩ => ?_) _ ⟨hs, by simp, by show (0 : Int) ≤ n; omega⟩
 obtain ⟨g, k⟩ := x
 simp only at hx i0 i1 ⊢
 unfold spec_l1Cur_graph_b1
 refine Tot.ite (fun hk => ?_) (fun hk => ?_)
 ·have hk' : k < (x5.2.2.2.length : Int) := of_decide_eq_true hk
  rw [hs.1] at hk'
  refine Tot.idx i0 (by rw [hx.1]; exact hk') fun row hrow => ?_
  refine Tot.bind (P := fun y => Sq n y) ?_ fun y hy => ?_
  ·refine Tot.loop (fun z => Sq n z.1 ∧ 0 ≤ z.2 ∧ z.2 ≤ n) (fun z => (n - z.2).toNat) (fun z ⟨hz, j0, j1⟩ => ?_) _ ⟨hx, by simp, by show (0 : Int) ≤ n; omega⟩
   obtain ⟨g2, j⟩ := z
   simp only at hz j0 j1 ⊢
   unfold spec_l1Cur_graph_b2
   refine Tot.ite (fun hj => ?_) (fun hj => Tot.inr hz)
   have hj' : j < (row.length : Int) := of_decide_eq_true hj
   rw [(hx.2 row hrow).1] at hj'
   refine Tot.idx i0 (by rw [hz.1]; exact hk') fun r2 hr2 => ?_
   refine Tot.idx j0 (by rw [(hz.2 r2 hr2).1]; exact hj') fun _ _ => Tot.inl ?_
   have hw : w64 (j + 1) = j + 1 := w64_id (by omega) (by omega)
   simp only [hw]
   exact ⟨⟨hz.set ⟨by rw [List.length_set]; exact (hz.2 r2 hr2).1, (hz.2 r2 hr2).2.set (by decide) (by decide)⟩, by omega, by omega⟩, by omega⟩
  ·unfold spec_l1Cur_graph_k5
   have hw : w64 (k + 1) = k + 1 := w64_id (by omega) (by omega)
   refine Tot.inl ?_
   simp only [hw]
   exact ⟨⟨hy, by omega, by omega⟩, by omega⟩
 ·exact Tot.inr ⟨hx, rfl⟩
theorem graph_ok {B : Nat} (hB : B ≤ 1000000) {c : Cur} (hc : Ck B c) : Tot (spec_l1Cur_graph c) fun r => (∃ n : Int, 1 ≤ n ∧ n ≤ 8 ∧ Sq n r.1) ∧ Ck (B + 1000) r.2 := by
 have k3 : ∀ (B' : Nat) (n : Int) (x5 : List Int × Int × Int × List (List Int)), B' ≤ B + 500 → 1 ≤ n → n ≤ 8 → Sq n x5.2.2.2 → Ck B' (cur4 x5) → Tot (spec_l1Cur_graph_k3 x5) fun r => (∃ n : Int, 1 ≤ n ∧ n ≤ 8 ∧ Sq n r.1) ∧ Ck (B + 1000) r.2 := by
  intro B' n x5 hB' h1 h8 hs hc
  unfold spec_l1Cur_graph_k3
  refine (one_ok (c := cur4 x5) hc (by omega) _).bind fun v7 h7 => ?_
  refine Tot.ite (fun _ => ?_) (fun _ => Tot.ret ⟨⟨n, h1, h8, hs⟩, Ck.mono h7 (by omega)⟩)
  refine (graph_full h1 h8 hs).bind fun y ⟨hy, hyc⟩ => Tot.ret ⟨⟨n, h1, h8, hy⟩, ?_⟩
  show Ck _ (cur4 y)
  rw [hyc]; exact h7.mono (by omega)
 have k1 : ∀ (B' : Nat) (x2 : List Int × Int × Int × Int), B' ≤ B + 10 → 1 ≤ x2.2.2.2 → x2.2.2.2 ≤ 8 → Ck B' (cur4 x2) → Tot (spec_l1Cur_graph_k1 x2) fun r => (∃ n : Int, 1 ≤ n ∧ n ≤ 8 ∧ Sq n r.1) ∧ Ck (B + 1000) r.2 := by
  intro B' x2 hB' h1 h8 hc
  unfold spec_l1Cur_graph_k1
  refine (among_ok (c := cur4 x2) hc (by omega) _ (by simp)).bind fun v3 ⟨_, h3⟩ => ?_
  refine (graph_rows (by omega) h1 h8 h3).bind fun y ⟨hy, hyc⟩ => ?_
  unfold spec_l1Cur_graph_k2
  refine (one_ok (c := cur4 y) hyc (by omega) _).bind fun v19 h19 => ?_
  refine Tot.ite (fun _ => ?_) (fun _ => k3 _ _ _ (by omega : B' + 2 + 400 + 2 ≤ B + 500) h1 h8 hy h19)
  refine (pick_ok h19 (by omega) _).bind fun v21 ⟨⟨a1, a2⟩, h21⟩ => ?_
  refine Tot.idx a1 (by rw [hy.1]; exact a2 h1) fun row hrow => ?_
  refine (pick_ok h21 (by omega) _).bind fun v23 ⟨⟨b1, b2⟩, h23⟩ => ?_
  refine (among_ok h23 (by omega) _ (by simp)).bind fun v24 ⟨m24, h24⟩ => ?_
  simp only [List.mem_cons, List.not_mem_nil, or_false] at m24
  refine Tot.idx b1 (by rw [(hy.2 row hrow).1]; exact b2 h1) fun _ _ => ?_
  exact k3 _ _ _ (by omega : B' + 2 + 400 + 2 + 2 + 2 + 2 ≤ B + 500) h1 h8 (hy.set ⟨by rw [List.length_set]; exact (hy.2 row hrow).1, (hy.2 row hrow).2.set (by omega) (by omega)⟩) h24
 unfold spec_l1Cur_graph
 refine (pick_ok hc (by omega) _).bind fun v1 ⟨⟨a1, a2⟩, h1⟩ => ?_
 refine (one_ok h1 (by omega) _).bind fun v42 h42 => ?_
 refine Tot.ite (fun _ => ?_) (fun _ => ?_)
 ·refine (among_ok h42 (by omega) _ (by simp)).bind fun v44 ⟨hm, h44⟩ => ?_
  have : 1 ≤ v44.1 ∧ v44.1 ≤ 8 := by
   simp only [List.mem_cons, List.not_mem_nil, or_false] at hm
   omega
  exact k1 _ _ (by omega : B + 2 + 2 + 2 ≤ B + 10) this.1 this.2 h44
 ·have := a2 (by omega)
  have e : w64 (1 + v1.1) = 1 + v1.1 := w64_id (by omega) (by omega)
  exact k1 _ _ (by omega : B + 2 + 2 ≤ B + 10) (by show 1 ≤ w64 (1 + v1.1); omega) (by show w64 (1 + v1.1) ≤ 8; omega) h42
def Sm (g : List (List Int)) : Prop := g.length ≤ 9 ∧ ∀ row ∈ g, row.length ≤ 9
theorem Sm.sized {g : List (List Int)} (h : Sm g) : sized g := ⟨by have := h.1; omega, fun row hr => by have := h.2 row hr; omega⟩
theorem Sq.sm {n : Int} {g : List (List Int)} (h : Sq n g) (h8 : n ≤ 8) : Sm g := ⟨by have := h.1; omega, fun row hr => by have := (h.2 row hr).1; omega⟩
theorem anyGraph_ok {B : Nat} (hB : B ≤ 1000000) {c : Cur} (hc : Ck B c) : Tot (spec_l1Cur_anyGraph c) fun r => Sm r.1 ∧ Ck (B + 1010) r.2 := by
 unfold spec_l1Cur_anyGraph spec_l1Cur_anyGraph_k1
 refine (graph_ok hB hc).bind fun v1 ⟨⟨n, n1, n8, hs⟩, h1⟩ => ?_
 refine (pick_ok h1 (by omega) _).bind fun v3 ⟨_, h3⟩ => ?_
 refine Tot.ite (fun _ => ?_) (fun _ => Tot.ite (fun _ => ?_) (fun _ => Tot.ite (fun _ => ?_) (fun _ => Tot.ite (fun _ => ?_) (fun _ => ?_))))
 ·refine Tot.idx (by omega) (by rw [hs.1]; omega) fun row hrow => ?_
  refine (pick_ok h3 (by omega) _).bind fun v6 ⟨⟨a1, a2⟩, h6⟩ => ?_
  refine (among_ok h6 (by omega) _ (by simp)).bind fun v7 ⟨_, h7⟩ => ?_
  refine Tot.idx a1 (by rw [(hs.2 row hrow).1, ← hs.1]; exact a2 (by rw [hs.1]; exact n1)) fun _ _ => Tot.ret ⟨?_, h7.mono (by omega)⟩
  refine ⟨by show (v1.1.set _ _).length ≤ 9; rw [List.length_set]; have := hs.1; omega, fun r hr => ?_⟩
  rcases mem_set hr with h | rfl
  ·have := (hs.2 r h).1; omega
  ·rw [List.length_set]; have := (hs.2 row hrow).1; omega
 ·refine Tot.idx (by omega) (by rw [hs.1]; omega) fun row hrow => ?_
  have hl := (hs.2 row hrow).1
  refine Tot.guard (by simp; omega) (Tot.ret ⟨⟨?_, fun r hr => ?_⟩, h3.mono (by omega)⟩)
  ·show (v1.1.set _ _).length ≤ 9
   rw [List.length_set]; have := hs.1; omega
  ·rcases mem_set hr with h | rfl
   ·have := (hs.2 r h).1; omega
   ·simp; omega
 ·exact Tot.ret ⟨⟨by simp, by simp⟩, h3.mono (by omega)⟩
 ·refine Tot.bind (P := fun y => Sm y.2.2.2 ∧ cur4 y = v3.2) ?_ fun y ⟨hy, hyc⟩ => Tot.ret ⟨hy, ?_⟩
  ·refine Tot.loop (fun x => Sm x) (fun x => 9 - x.length) (fun x hx => ?_) _ ⟨by simp, by simp⟩
   unfold spec_l1Cur_anyGraph_b1
   refine Tot.ite (fun hk => ?_) (fun hk => Tot.inr ⟨hx, rfl⟩)
   have hk' : (x.length : Int) < 9 := of_decide_eq_true hk
   refine Tot.guard (by decide) (Tot.guard (by simp; omega) (Tot.inl ?_))
   refine ⟨⟨by simp; omega, fun r hr => ?_⟩, by simp; omega⟩
   rcases List.mem_append.1 hr with h | h
   ·exact hx.2 r h
   ·rw [List.mem_singleton.1 h]; decide
  ·show Ck _ (cur4 y)
   rw [hyc]; exact h3.mono (by omega)
 ·exact Tot.ret ⟨hs.sm n8, h3.mono (by omega)⟩
end Go.PV

/-
 Plain laws: what draws fractions and vectors always comes to an end.
 Conditions: none.
-/
set_option linter.all false
namespace Go.PV
theorem rat_ok {B : Nat} (hB : B ≤ 100000000) {c : Cur} (hc : Ck B c) : Tot (spec_l1Cur_rat c) fun r => isRat r.1 = true ∧ Ck (B + 12) r.2 := by
 unfold spec_l1Cur_rat
 refine (pick_ok hc (by omega) _).bind fun v1 ⟨⟨a1, a2⟩, h1⟩ => ?_
 refine (pick_ok h1 (by omega) _).bind fun v2 ⟨⟨b1, b2⟩, h2⟩ => ?_
 refine (among_ok h2 (by omega) _ (by simp)).bind fun v3 ⟨m3, h3⟩ => ?_
 refine (pick_ok h3 (by omega) _).bind fun v4 ⟨⟨d1, d2⟩, h4⟩ => ?_
 refine (pick_ok h4 (by omega) _).bind fun v5 ⟨⟨e1, e2⟩, h5⟩ => ?_
 refine (among_ok h5 (by omega) _ (by simp)).bind fun v6 ⟨m6, h6⟩ => ?_
 have a3 := a2 (by omega); have b3 := b2 (by omega); have d3 := d2 (by omega); have e3 := e2 (by omega)
 rw [w64_id (by omega) (by omega), w64_id (by omega) (by omega)] at m3 m6
 simp only [List.mem_cons, List.not_mem_nil, or_false] at m3 m6
 rw [spec_raMake_gen v3.1 v6.1 (by omega) (by omega) (by omega) (by omega) (by omega), Option.bind_some]
 unfold spec_raInt
 cases hq : lowQ v3.1 v6.1 with
 | none => exact Tot.ret ⟨isRat_one, h6⟩
 | some q => exact Tot.ret ⟨lowQ_rat hq, h6⟩
theorem anyRat_ok {B : Nat} (hB : B ≤ 100000000) {c : Cur} (hc : Ck B c) : Tot (spec_l1Cur_anyRat c) fun r => Ck (B + 18) r.2 := by
 unfold spec_l1Cur_anyRat
 refine (rat_ok hB hc).bind fun v1 ⟨_, h1⟩ => ?_
 refine (pick_ok h1 (by omega) _).bind fun v2 ⟨_, h2⟩ => ?_
 refine Tot.ite (fun _ => ?_) (fun _ => Tot.ite (fun _ => ?_) (fun _ => Tot.ite (fun _ => ?_) (fun _ => Tot.ret (h2.mono (by omega)))))
 ·exact (among_ok h2 (by omega) _ (by simp)).bind fun v ⟨_, h⟩ => Tot.ret (h.mono (by omega))
 ·exact (among_ok h2 (by omega) _ (by simp)).bind fun v ⟨_, h⟩ => Tot.ret (h.mono (by omega))
 ·exact (among_ok h2 (by omega) _ (by simp)).bind fun v ⟨_, h⟩ => (among_ok h (by omega) _ (by simp)).bind fun w ⟨_, h'⟩ => Tot.ret (h'.mono (by omega))
end Go.PV

/-
 Plain law: growth of drawn graphs.
 Conditions: none.
-/
set_option linter.all false
namespace Go.PV
theorem isGraph_of {n : Nat} {G : Nat → Nat → Int} (h1 : 1 ≤ n) (hn : n ≤ 8) (hG : ∀ i j, i < n → j < n → 0 ≤ G i j ∧ G i j ≤ 9) : isGraph (mat n n G) = true := by
 unfold isGraph
 rw [mat_len, Bool.and_eq_true]
 refine ⟨inB_iff.2 ⟨by omega, by omega⟩, ?_⟩
 unfold mat
 rw [tab_all]
 intro i hi
 rw [tab_len, Bool.and_eq_true, tab_all]
 exact ⟨by simp, fun j hj => inB_iff.2 (hG i j hi hj)⟩
theorem sized_mat {n : Nat} {G : Nat → Nat → Int} (hn : n ≤ 8) : sized (mat n n G) := ⟨by rw [mat_len]; omega, fun row hr => by
 obtain ⟨i, _, rfl⟩ := tab_mem.1 hr
 rw [tab_len]; omega⟩
theorem laws_qInts_self (xs : List Int) (hl : xs.length ≤ 4611686018427387904) : laws_qInts xs xs = some true := laws_eqIntS_self xs hl
section
variable {n : Nat} {G : Nat → Nat → Int} {v : Nat → Int}
end
end Go.PV

/-
 Plain law: FnWalkCounts.
 Conditions: none.
-/
set_option linter.all false
namespace Go.PV
theorem digits_val {v : Int} (h1 : 1 ≤ v) (h2 : v ≤ 1000000000) : ∃ k : Nat, loopO impl_WalkDigits_b1 (v, 0) = some (k : Int) ∧ k ≤ 60 ∧ v / 2 ^ k = 1 := by
 have bd : ∀ k : Nat, 1 ≤ v / 2 ^ k → (k : Int) ≤ 60 := by
  intro k hk
  refine Classical.byContradiction fun hno => ?_
  have h60 : (2 : Int) ^ 60 ≤ 2 ^ k := by
   have := Nat.pow_le_pow_right (show 0 < 2 by omega) (show 60 ≤ k by omega)
   exact_mod_cast this
  have hp : (0 : Int) < 2 ^ k := Int.pow_pos (by omega)
  have := (Int.le_ediv_iff_mul_le hp).1 hk
  have h3 : (2 : Int) ^ 60 = 1152921504606846976 := by decide
  omega
 obtain ⟨y, e, k, hy, hk⟩ := loop_run (body := impl_WalkDigits_b1) (fun x => ∃ k : Nat, x = (v / 2 ^ k, (k : Int)) ∧ 1 ≤ v / 2 ^ k) (fun x => x.1.toNat) (fun y => ∃ k : Nat, y = (k : Int) ∧ v / 2 ^ k = 1) (by
  rintro _ ⟨k, rfl, hk⟩
  have hb := bd k hk
  have hle : v / 2 ^ k ≤ v := Int.ediv_le_self _ (by omega)
  by_cases hlt : v / 2 ^ k > 1
  ·left
   have h3 : Int.tdiv (v / 2 ^ k) 2 = v / 2 ^ (k + 1) := by
    rw [Int.tdiv_eq_ediv_of_nonneg (by omega), Int.ediv_ediv_of_nonneg (Int.le_of_lt (Int.pow_pos (by omega))), Int.pow_succ]
   have h4 : v / 2 ^ (k + 1) = v / 2 ^ k / 2 := by
    rw [Int.ediv_ediv_of_nonneg (Int.le_of_lt (Int.pow_pos (by omega))), Int.pow_succ]
   refine ⟨(v / 2 ^ (k + 1), ((k + 1 : Nat) : Int)), ?_, ⟨k + 1, rfl, by omega⟩, by simp only; omega⟩
   simp only [impl_WalkDigits_b1, hlt, decide_true, if_true, h3]
   rw [w64_id (n := v / 2 ^ (k + 1)) (by omega) (by omega), w64_nat (show k < 9223372036854775807 by omega)]
  ·right
   exact ⟨(k : Int), by simp [impl_WalkDigits_b1, hlt], k, rfl, by omega⟩) (v, 0) ⟨0, by simp, by simpa using h1⟩
 have hb := bd k (by omega)
 exact ⟨k, by rw [e, hy], by omega, hk⟩
theorem shift_val {v : Int} {k : Nat} (hk : k ≤ 60) (h : v / 2 ^ k = 1) : ishr .i64 v (IntKind.wrap .u64 (k : Int)) = 1 ∧ 0 ≤ IntKind.wrap .u64 (k : Int) := by
 have hw : IntKind.wrap .u64 (k : Int) = (k : Int) := by rw [wrapU64]; omega
 rw [hw]
 refine ⟨?_, by omega⟩
 unfold ishr
 have hb : IntKind.bits .i64 = 64 := rfl
 have hm : min (Int.toNat (k : Int)) (IntKind.bits .i64) = k := by rw [hb, Int.toNat_natCast]; omega
 rw [hm, Int.fdiv_eq_ediv_of_nonneg _ (Int.le_of_lt (Int.pow_pos (by omega)))]
 exact h
theorem total_nonneg (g : List (List Int)) (m : Int) : 0 ≤ (totalWalks g m).1 := by
 unfold totalWalks
 cases hg : (isGraph g && inB 0 12 m)
 ·simp
 ·rw [Bool.and_eq_true] at hg
  obtain ⟨n, G, h1, h2, rfl, hG⟩ := isGraph_mat hg.1
  simp only [if_true, mat_len]
  have e : mat n n (powN n (fun i j => ((mat n n G).getD i []).getD j 0) 1000000001 m.toNat) = mat n n (powN n G 1000000001 m.toNat) := mat_ext fun i j _ hj => powN_congr (fun i j hi hj => mat_self i j hi hj) _ i j hj
  rw [e]
  have := total_take (mat_rows h2 fun i j hi hj => powN_range hG (by decide) (by decide) m.toNat i j hi hj) n (by rw [mat_len]; exact Nat.le_refl _)
  rw [List.take_of_length_le (by rw [mat_len]; exact Nat.le_refl _)] at this
  split
  ·simp
  ·exact this.1
theorem total_le (g : List (List Int)) (m : Int) : (totalWalks g m).1 ≤ 1000000000 := by
 unfold totalWalks
 split
 ·simp only
  split
  ·simp
  ·simp only; omega
 ·simp
theorem digits_cases (g : List (List Int)) (m : Int) (hs : sized g) : ∃ r, impl_WalkDigits g m = some r ∧ spec_WalkDigits g m = some r ∧ r.2 = ((totalWalks g m).2 && decide ((totalWalks g m).1 > 0)) ∧
  (r.2 = true → ishr .i64 (totalWalks g m).1 (IntKind.wrap .u64 r.1) = 1 ∧ 0 ≤ IntKind.wrap .u64 r.1) := by
 obtain ⟨r, e1, e2⟩ := WalkDigits_same g m hs
 refine ⟨r, e1, e2, ?_⟩
 unfold impl_WalkDigits at e1
 rw [impl_TotalWalks_eq g m hs, Option.bind_some] at e1
 have h0 := total_nonneg g m
 have h9 := total_le g m
 cases hok : (totalWalks g m).2
 ·rw [hok] at e1
  obtain rfl := Option.some.inj e1
  exact ⟨rfl, fun h => by cases h⟩
 ·rw [hok] at e1
  by_cases hz : (totalWalks g m).1 = 0
  ·rw [hz] at e1
   obtain rfl := Option.some.inj e1
   rw [hz]
   exact ⟨rfl, fun h => by cases h⟩
  ·obtain ⟨k, k1, k2, k3⟩ := digits_val (v := (totalWalks g m).1) (by omega) h9
   rw [if_neg (by simpa using hz), k1, Option.bind_some] at e1
   obtain rfl := Option.some.inj e1
   refine ⟨?_, fun _ => shift_val k2 k3⟩
   have : (totalWalks g m).1 > 0 := by omega
   simp [this]
theorem grows_mat {n m : Nat} {G H : Nat → Nat → Int} (h1 : 1 ≤ n) (h2 : n ≤ 8) (hG : ∀ i j, i < n → j < n → 0 ≤ G i j ∧ G i j ≤ 9) (k1 : 1 ≤ m) (k2 : m ≤ 8) (hH : ∀ i j, i < m → j < m → 0 ≤ H i j ∧ H i j ≤ 9) :
  impl_GrowsFaster (mat n n G) (mat m m H) = some (less (bestT H m).2.1 (bestT G n).1, true) := by
 have e2 : impl_isGraph (mat n n G) = some true := by rw [impl_isGraph_eq _ (sized_mat h2), isGraph_of h1 h2 hG]
 have e4 : impl_isGraph (mat m m H) = some true := by rw [impl_isGraph_eq _ (sized_mat k2), isGraph_of k1 k2 hH]
 have hv := (isVec_tab h1 h2).1 (mxg_good (G := G) h1 h2 20 (mxg G n 20) (Nat.le_refl _))
 have hw := (isVec_tab k1 k2).1 (mxg_good (G := H) k1 k2 20 (mxg H m 20) (Nat.le_refl _))
 have hr := mn_rat (ratN_rat h2 hG hv (i := 0) (by omega)) (fun i hi => ratN_rat h2 hG hv hi) n (Nat.le_refl n)
 have hs := mn_rat (ratN_rat k2 hH hw (i := 0) (by omega)) (fun i hi => ratN_rat k2 hH hw hi) m (Nat.le_refl m)
 simp only [impl_GrowsFaster, impl_BestGrowth_mat h1 h2 hG e2, impl_BestGrowth_mat k1 k2 hH e4, bestT, Option.bind_some, Bool.not_true, Bool.or_self, Bool.false_eq_true, if_false]
 rw [impl_less_eq _ _ (tame_of hs.2) (tame_of hr.1)]
 rfl
theorem best_order {n : Nat} {G : Nat → Nat → Int} (h1 : 1 ≤ n) (h2 : n ≤ 8) (hG : ∀ i j, i < n → j < n → 0 ≤ G i j ∧ G i j ≤ 9) : 0 < (bestT G n).1.2 ∧ 0 < (bestT G n).2.1.2 ∧ less (bestT G n).2.1 (bestT G n).1 = false := by
 have hv := (isVec_tab h1 h2).1 (mxg_good (G := G) h1 h2 20 (mxg G n 20) (Nat.le_refl _))
 have hr := mn_rat (ratN_rat h2 hG hv (i := 0) (by omega)) (fun i hi => ratN_rat h2 hG hv hi) n (Nat.le_refl n)
 exact ⟨rat_pos hr.1, rat_pos hr.2, mn_le_mx h1 h2 hG hv⟩
theorem grows_cases (g h : List (List Int)) (hg : sized g) (hh : sized h) : ∃ r r', spec_GrowsFaster g h = some r ∧ impl_GrowsFaster g h = some r ∧ impl_GrowsFaster h g = some r' ∧ (r.2 = true → r'.2 = true ∧ (r'.1 && r.1) = false) := by
 obtain ⟨r, e1, e2⟩ := both_GrowsFaster g h hg hh
 obtain ⟨r', _, e3⟩ := both_GrowsFaster h g hh hg
 refine ⟨r, r', e1, e2, e3, fun hr => ?_⟩
 have bad : ∀ x : List (List Int), impl_isGraph x = some false → impl_BestGrowth x = some ((0, 0), (0, 0), 0, false) := fun x hx => by simp [impl_BestGrowth, hx]
 obtain ⟨b1, _, a2⟩ := both_BestGrowth g hg
 have hG : isGraph g = true := by
  cases hG : isGraph g
  ·have := impl_isGraph_eq g hg
   rw [hG] at this
   obtain ⟨b2, _, c2⟩ := both_BestGrowth h hh
   rw [impl_GrowsFaster, bad g this, c2] at e2
   simp only [Option.bind_some, Bool.not_false, Bool.true_or, if_true, Option.some.injEq] at e2
   subst e2; cases hr
  ·rfl
 have hH : isGraph h = true := by
  cases hH : isGraph h
  ·have := impl_isGraph_eq h hh
   rw [hH] at this
   rw [impl_GrowsFaster, a2, bad h this] at e2
   simp only [Option.bind_some, Bool.not_false, Bool.or_true, if_true, Option.some.injEq] at e2
   subst e2; cases hr
  ·rfl
 obtain ⟨n, G, h1, h2, rfl, h3⟩ := isGraph_mat hG
 obtain ⟨m, H, k1, k2, rfl, k3⟩ := isGraph_mat hH
 rw [grows_mat h1 h2 h3 k1 k2 k3] at e2
 rw [grows_mat k1 k2 k3 h1 h2 h3] at e3
 obtain rfl := Option.some.inj e2
 obtain rfl := Option.some.inj e3
 refine ⟨rfl, ?_⟩
 obtain ⟨p1, p2, p3⟩ := best_order h1 h2 h3
 obtain ⟨q1, q2, q3⟩ := best_order k1 k2 k3
 cases x1 : less (bestT G n).2.1 (bestT H m).1
 ·rfl
 ·cases x2 : less (bestT H m).2.1 (bestT G n).1
  ·rfl
  ·exfalso
   have y1 := (less_val p2 q1).1 x1
   have y2 := (less_val q2 p1).1 x2
   have y3 := (less_val_no p2 p1).1 p3
   have y4 := (less_val_no q2 q1).1 q3
   grind
theorem max_mem (xs : List Int) (h0 : 1 ≤ xs.length) (hl : xs.length ≤ 1048576) : ∃ x ∈ xs, slices_Max_Lint_int xs = some x := by
 unfold slices_Max_Lint_int
 rw [if_neg (by simp; omega)]
 unfold slices_Max_Lint_int_k1
 have i0 : idxO xs 0 = some xs[0] := by have := idxO_lt (xs := xs) (i := 0) (by omega); exact this
 rw [i0, Option.bind_some]
 obtain ⟨y, e, hy⟩ := loop_run (body := slices_Max_Lint_int_b1 xs) (fun s => s.1 ∈ xs ∧ ∃ i : Nat, s.2 = (i : Int) ∧ i ≤ xs.length) (fun s => xs.length - s.2.toNat) (fun y => y ∈ xs) (by
  rintro ⟨a, b⟩ ⟨ha, i, hi, hle⟩
  simp only at ha hi
  subst hi
  by_cases hlt : i < xs.length
  ·left
   refine ⟨(if a < xs[i] then xs[i] else a, ((i + 1 : Nat) : Int)), ?_, ⟨?_, i + 1, rfl, hlt⟩, by simp only [Int.toNat_natCast]; omega⟩
   ·simp only [slices_Max_Lint_int_b1, show ((i : Int) < (xs.length : Int)) from by omega, decide_true, if_true, idxO_lt hlt, Option.bind_some, w64_nat (show i < 9223372036854775807 by omega)]
   ·show (if a < xs[i] then xs[i] else a) ∈ xs
    split
    ·exact List.getElem_mem hlt
    ·exact ha
  ·right
   exact ⟨a, by simp [slices_Max_Lint_int_b1]; omega, ha⟩) (xs[0], 1) ⟨List.getElem_mem (by omega), 1, rfl, h0⟩
 rw [e]
 exact ⟨y, hy, rfl⟩
theorem sum_ge {xs : List Int} (hx : ∀ x ∈ xs, 0 ≤ x) : ∀ x ∈ xs, x ≤ xs.sum := by
 induction xs with
 | nil => intro x h; cases h
 | cons y ys ih =>
  have hs : 0 ≤ ys.sum := by
   clear ih
   induction ys with
   | nil => simp
   | cons z zs ih2 =>
    rw [List.sum_cons]
    have := ih2 fun x hx' => hx x (by simp at hx' ⊢; rcases hx' with h | h <;> simp [h])
    have := hx z (by simp)
    omega
  intro x hm
  rw [List.sum_cons]
  rcases List.mem_cons.1 hm with rfl | hm
  ·omega
  ·have := ih (fun z hz => hx z (by simp [hz])) x hm
   have := hx y (by simp)
   omega
theorem power_val {n : Nat} {G : Nat → Nat → Int} (h1 : 1 ≤ n) (h2 : n ≤ 8) (hG : ∀ i j, i < n → j < n → 0 ≤ G i j ∧ G i j ≤ 9) {k : Nat} (hk : k ≤ 12) (ht : total (mat n n (powN n G 1000000001 k)) ≤ 1000000000) :
  impl_PowerOf (mat n n G) (k : Int) = some (mat n n (powN n G 1000000001 k), true) ∧ spec_PowerOf (mat n n G) (k : Int) = some (mat n n (powN n G 1000000001 k), true) := by
 have hin : inB 0 12 (k : Int) = true := inB_iff.2 ⟨by omega, by omega⟩
 have hg := isGraph_of h1 h2 hG
 have hs := sized_mat (G := G) h2
 have rows := mat_rows h2 fun i j hi hj => powN_range hG (by decide) (by decide) (most := 1000000001) k i j hi hj
 have small : ∀ row ∈ mat n n (powN n G 1000000001 k), ∀ x ∈ row, 0 ≤ x ∧ x ≤ 1000000000 := by
  intro row hr x hx
  have r1 := (rows row hr).2
  have s1 := sum_ge (fun x hx => (r1 x hx).1) x hx
  have s2 := sum_ge (xs := (mat n n (powN n G 1000000001 k)).map List.sum) (fun y hy => by
   obtain ⟨row', hr', rfl⟩ := List.mem_map.1 hy
   exact (sum_nonneg (rows row' hr').2).1) row.sum (List.mem_map.2 ⟨row, hr, rfl⟩)
  unfold total at ht
  exact ⟨(r1 x hx).1, by omega⟩
 have rlen : ∀ row ∈ mat n n (powN n G 1000000001 k), row.length = n := fun row hr => by
  obtain ⟨i, hi, rfl⟩ := tab_mem.1 hr
  exact tab_len _ _
 constructor
 ·unfold impl_PowerOf impl_isWalk impl_power
  rw [impl_isGraph_eq _ hs, hg]
  simp only [Option.bind_some, if_true, impl_within_eq, hin, Bool.not_true, Bool.false_eq_true, if_false, impl_powerUpTo_eq h2 k (by omega)]
  rw [contains_LL _ _ (fun _ => false) (fun row hr => by
   obtain ⟨x, hx, e⟩ := max_mem row (by rw [rlen row hr]; exact h1) (by rw [rlen row hr]; omega)
   unfold impl_PowerOf_1
   rw [e, Option.bind_some]
   have := (small row hr x hx).2
   rw [decide_eq_false (by omega)]) (by rw [mat_len]; omega)]
  simp
 ·unfold spec_PowerOf spec_grSteps
  rw [spec_grGood_eq _ hs, hg]
  simp only [Option.bind_some, Bool.not_true, Bool.false_eq_true, if_false, spec_l1In_eq, hin, spec_grPower_eq h2 k (by omega)]
  have hx : loopO (spec_PowerOf_b1 (mat n n (powN n G 1000000001 k))) 0 = some (.inr ()) := by
   refine loop_idx (body := spec_PowerOf_b1 (mat n n (powN n G 1000000001 k))) n (fun i => (i : Int)) (.inr ()) (fun i hi => ?_) (by simp [spec_PowerOf_b1, mat_len])
   have hr : tab n (powN n G 1000000001 k i) ∈ mat n n (powN n G 1000000001 k) := tab_mem.2 ⟨i, hi, rfl⟩
   have hall : (tab n (powN n G 1000000001 k i)).all (inB 0 1000000000) = true := by
    rw [List.all_eq_true]
    intro x hx
    exact inB_iff.2 (small _ hr x hx)
   simp only [spec_PowerOf_b1, mat_len, show ((i : Int) < (n : Int)) from by omega, decide_true, if_true, idxO_mat hi, Option.bind_some, spec_l1All_eq _ _ _ (show (tab n (powN n G 1000000001 k i)).length ≤ 4611686018427387904 by rw [tab_len]; omega), hall, Bool.not_true, Bool.false_eq_true, if_false, w64_nat (show i < 9223372036854775807 by omega)]
  rw [hx]
  rfl
theorem qLists_self (xs : List (List Int)) (hs : sized xs) : laws_qLists xs xs = some true := by
 have hx := loop_idx (body := laws_qLists_b1 xs xs) xs.length (fun i => (i : Int)) (.inr ()) (fun i hi => by
  have := hs.2 xs[i] (List.getElem_mem hi)
  have := hs.1
  simp only [laws_qLists_b1, show ((i : Int) < (xs.length : Int)) from by omega, decide_true, if_true, idxO_lt hi, Option.bind_some, laws_qInts_self xs[i] (by omega), Bool.not_true, Bool.false_eq_true, if_false, w64_nat (show i < 9223372036854775807 by omega)]) (by simp [laws_qLists_b1])
 unfold laws_qLists
 rw [if_neg (by simp), show (0 : Int) = ((0 : Nat) : Int) from rfl, hx]
 rfl
theorem counts_k1 (g : List (List Int)) (m : Int) (hs : sized g) {r : Int × Bool} (hr : r.2 = true → ishr .i64 (totalWalks g m).1 (IntKind.wrap .u64 r.1) = 1 ∧ 0 ≤ IntKind.wrap .u64 r.1) : laws_FnWalkCounts_k1 (g, m) (totalWalks g m) (totalWalks g m) r r () = some true := by
 unfold laws_FnWalkCounts_k1
 have first : (if r.2 = true then (guardO (0 ≤ IntKind.wrap .u64 r.1)).bind fun _ => some (ishr .i64 (totalWalks g m).1 (IntKind.wrap .u64 r.1) != 1) else some false : Option Bool) = some false := by
  cases h : r.2
  ·rfl
  ·obtain ⟨a, b⟩ := hr h
   rw [if_pos rfl, guardO_bind_pos b, a]
   rfl
 rw [first, Option.bind_some]
 simp only [Bool.false_eq_true, if_false]
 cases hok : (totalWalks g m).2
 ·rfl
 ·simp only [Bool.not_true, Bool.false_eq_true, if_false]
  unfold totalWalks at hok ⊢
  cases hg : (isGraph g && inB 0 12 m)
  ·rw [hg] at hok; cases hok
  ·rw [hg] at hok
   rw [Bool.and_eq_true] at hg
   obtain ⟨n, G, h1, h2, rfl, hG⟩ := isGraph_mat hg.1
   obtain ⟨m1, m2⟩ := inB_iff.1 hg.2
   obtain ⟨k, rfl⟩ := Int.eq_ofNat_of_zero_le m1
   have e : mat n n (powN n (fun i j => ((mat n n G).getD i []).getD j 0) 1000000001 k) = mat n n (powN n G 1000000001 k) := mat_ext fun i j _ hj => powN_congr (fun i j hi hj => mat_self i j hi hj) k i j hj
   simp only [if_true, mat_len, Int.toNat_natCast, e] at hok ⊢
   by_cases ht : total (mat n n (powN n G 1000000001 k)) > 1000000000
   ·rw [if_pos ht] at hok; cases hok
   ·obtain ⟨p1, p2⟩ := power_val h1 h2 hG (k := k) (by omega) (by omega)
    have hsP := sized_mat (G := powN n G 1000000001 k) h2
    have hloop : loopO (laws_FnWalkCounts_b1 (mat n n (powN n G 1000000001 k), true)) (0, 0) = some (total (mat n n (powN n G 1000000001 k))) :=
     impl_total _ (by rw [mat_len]; exact h2) (mat_rows h2 fun i j hi hj => powN_range hG (by decide) (by decide) k i j hi hj)
    rw [if_neg ht, p1, p2]
    simp only [Option.bind_some, Bool.not_true, Bool.false_eq_true, if_false, qLists_self _ hsP, hloop, laws_FnWalkCounts_k2, beq_self_eq_true]
theorem walkSteps_ok {B : Nat} (hB : B ≤ 100000) {c : Cur} (hc : Ck B c) : Tot (spec_l1Cur_walkSteps c) fun r => True := by
 unfold spec_l1Cur_walkSteps
 refine (among_ok hc (by omega) _ (by simp)).bind fun v1 ⟨m1, h1⟩ => ?_
 exact (among_ok h1 (by omega) _ (by simp)).bind fun v2 ⟨m2, h2⟩ => Tot.ret trivial
theorem DrawTotalWalks_ok {l : List Int} (h : Bytes l) : Tot (spec_DrawTotalWalks l) fun r => Sm r.1 := by
 unfold spec_DrawTotalWalks spec_DrawPowerOf
 refine Tot.bind (P := fun r => Sm r.1) ?_ fun r hr => Tot.ret hr
 refine (anyGraph_ok (by omega) (ck0 h)).bind fun v1 ⟨s1, h1⟩ => ?_
 exact (walkSteps_ok (by omega) h1).bind fun v2 _ => Tot.ret s1
theorem DrawGrowsFaster_ok {l : List Int} (h : Bytes l) : Tot (spec_DrawGrowsFaster l) fun r => Sm r.1 ∧ Sm r.2 := by
 unfold spec_DrawGrowsFaster
 refine (anyGraph_ok (by omega) (ck0 h)).bind fun v1 ⟨s1, h1⟩ => ?_
 exact (anyGraph_ok (by omega) h1).bind fun v2 ⟨s2, _⟩ => Tot.ret ⟨s1, s2⟩
theorem DrawBoundsText_ok {l : List Int} (h : Bytes l) : Tot (spec_DrawBoundsText l) fun r => True := by
 unfold spec_DrawBoundsText spec_DrawBoundsText_k1
 refine (rat_ok (by omega) (ck0 h)).bind fun v1 ⟨r1, h1⟩ => ?_
 refine (rat_ok (by omega) h1).bind fun v2 ⟨r2, h2⟩ => ?_
 rw [spec_raCmp_eq _ _ (tame_of r1) (tame_of r2), Option.bind_some]
 refine Tot.bind (P := fun w : List Int × Int × Int × Bool => Ck (0 + 12 + 12 + 2) (w.1, w.2.1, w.2.2.1)) ?_ fun w hw => ?_
 ·refine Tot.ite (fun _ => ?_) (fun _ => Tot.ret (Ck.mono (c := v2.2) h2 (by omega)))
  exact (one_ok h2 (by omega) _).bind fun v4 h4 => Tot.ret (Ck.mono (c := v4.2) h4 (by omega))
 ·refine Tot.ite (fun _ => Tot.ret trivial) (fun _ => ?_)
  refine (one_ok hw (by omega) _).bind fun v8 h8 => ?_
  refine Tot.ite (fun _ => ?_) (fun _ => Tot.ret trivial)
  exact (anyRat_ok (by omega) h8).bind fun v10 _ => Tot.ret trivial
theorem laws_FnWalkCounts_eq (a0 a1 : List Int) (h0 : Bytes a0) (h1 : Bytes a1) : laws_FnWalkCounts a0 a1 = some true := by
 unfold laws_FnWalkCounts
 by_cases hbig : (decide (w64 ((a0.length : Int) + (a1.length : Int)) > 1048576)) = true
 ·rw [if_pos hbig]
 rw [if_neg hbig]
 obtain ⟨v2, e2, s2⟩ := DrawTotalWalks_ok h0
 obtain ⟨v7, e7, s7, s7'⟩ := DrawGrowsFaster_ok h1
 obtain ⟨v10, e10, _⟩ := DrawBoundsText_ok h1
 obtain ⟨g, m⟩ := v2
 obtain ⟨r5, d1, d2, d3, d4⟩ := digits_cases g m s2.sized
 obtain ⟨r8, r8', g1, g2, g3, g4⟩ := grows_cases v7.1 v7.2 s7.sized s7'.sized
 obtain ⟨r11, b1, b2⟩ := both_BoundsText v10.1 v10.2
 have hk1 := counts_k1 g m s2.sized d4
 rw [e2, Option.bind_some, impl_TotalWalks_eq g m s2.sized, Option.bind_some, spec_TotalWalks_eq g m s2.sized, Option.bind_some, d1, Option.bind_some, d2, Option.bind_some, e7, Option.bind_some, g2, Option.bind_some, g1, Option.bind_some, e10, Option.bind_some, b2, Option.bind_some, b1, Option.bind_some]
 have c1 : (if (totalWalks g m).2 = true then !(r5.2 == decide ((totalWalks g m).1 > 0)) else !(r5.2 == false)) = false := by
  rw [d3]
  cases (totalWalks g m).2 <;> simp
 simp only [beq_self_eq_true, Bool.not_true, bne_self_eq_false, Bool.false_or, c1, Bool.false_eq_true, if_false, hk1, g3, Option.bind_some]
 cases h8 : r8.2
 ·rfl
 ·obtain ⟨x1, x2⟩ := g4 h8
  simp only [if_true, x1, Bool.not_true, Bool.false_or, x2, Bool.false_eq_true, if_false]
end Go.PV

/-
 What comes in as bytes is bytes.
 Conditions: none.
-/
set_option linter.all false
namespace Go.PV
theorem bytes_of {l : List Int} (h : (Ty.sl (.int .u8)).ok l) : Bytes l := by
 refine ⟨Nat.le_trans h.1 (by decide), fun b hb => ?_⟩
 have h2 : (Lit.int .u8 b).wf = true := h.2 b hb
 simp only [Lit.wf, Bool.and_eq_true, decide_eq_true_eq] at h2
 have e1 : IntKind.u8.min = 0 := by decide
 have e2 : IntKind.u8.max = 255 := by decide
 omega
end Go.PV
