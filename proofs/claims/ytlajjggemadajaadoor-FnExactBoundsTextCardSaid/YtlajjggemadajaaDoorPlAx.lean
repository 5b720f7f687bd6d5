/-
  Plain laws of what the functions answer.
  Conditions: none.
-/
import Derived.Test.YtlajjggemadajaaDoorPvCx
import Derived.Test.YtlajjggemadajaaDoorDf
set_option linter.all false
/-
 Plain laws: bounds, lists of numbers, vectors.
 Conditions: none.
-/
namespace Go.PV
def inB (a b n : Int) : Bool := decide (a ≤ n) && decide (n ≤ b)
theorem inB_iff {a b n : Int} : inB a b n = true ↔ a ≤ n ∧ n ≤ b := by simp [inB]
theorem spec_l1In_eq (v a b : Int) : spec_l1In v a b = some (inB a b v) := rfl
theorem impl_within_eq (v a b : Int) : impl_within v a b = some (inB a b v) := rfl
def isVec (xs : List Int) : Bool := inB 1 8 xs.length && xs.all (inB 1 1000000)
end Go.PV

/-
 Plain laws: greatest divisors, fractions, floors, fractions reduced.
 Conditions: none.
-/
namespace Go.PV
theorem toNat_gcd_step (a b : Nat) (hb : b ≠ 0) : Nat.gcd b (a % b) = Nat.gcd a b := by
 rw [Nat.gcd_comm a b, Nat.gcd_rec b a, Nat.gcd_comm]
theorem impl_gcd_loop (b : Nat) : ∀ a : Nat, loopO impl_greatestDivisor_b1 ((a : Int), (b : Int)) = some ((Nat.gcd a b : Nat) : Int) := by
 induction b using Nat.strongRecOn with
 | ind b ih =>
  intro a
  rw [loopO_eq]
  by_cases hb : b = 0
  ·subst hb; simp [impl_greatestDivisor_b1]
  ·have hb' : ((b : Int) != 0) = true := by simp; omega
   simp only [impl_greatestDivisor_b1, hb', if_true, guardO_bind_pos (show (b : Int) ≠ 0 by omega)]
   have : Int.tmod (a : Int) (b : Int) = ((a % b : Nat) : Int) := rfl
   rw [this, ih (a % b) (Nat.mod_lt _ (by omega)) b, toNat_gcd_step a b hb]
theorem spec_gcd_loop (b : Nat) : ∀ a : Nat, loopO spec_raCommon_b1 ((a : Int), (b : Int)) = some ((Nat.gcd a b : Nat) : Int) := by
 induction b using Nat.strongRecOn with
 | ind b ih =>
  intro a
  rw [loopO_eq]
  by_cases hb : b = 0
  ·subst hb; simp [spec_raCommon_b1]
  ·have hb' : decide ((b : Int) > 0) = true := by simp; omega
   simp only [spec_raCommon_b1, hb', if_true, guardO_bind_pos (show (b : Int) ≠ 0 by omega)]
   have : Int.tmod (a : Int) (b : Int) = ((a % b : Nat) : Int) := rfl
   rw [this, ih (a % b) (Nat.mod_lt _ (by omega)) b, toNat_gcd_step a b hb]
theorem impl_abs_eq (a : Int) (h : -9223372036854775808 < a) (h2 : a ≤ 9223372036854775807) : impl_abs a = some (a.natAbs : Int) := by
 unfold impl_abs
 by_cases ha : a < 0
 ·simp only [ha, decide_true, if_true]; rw [w64_id (by omega) (by omega)]; congr 1; omega
 ·simp only [ha, decide_false, Bool.false_eq_true, if_false]; congr 1; omega
theorem spec_l1Abs_eq (a : Int) (h : -9223372036854775808 < a) (h2 : a ≤ 9223372036854775807) : spec_l1Abs a = some (a.natAbs : Int) := by
 unfold spec_l1Abs spec_l1Most
 rw [w64_id (by omega) (by omega)]
 by_cases ha : a > 0 - a
 ·simp only [ha, decide_true, if_true, Option.bind_some]; congr 1; omega
 ·simp only [ha, decide_false, Bool.false_eq_true, if_false, Option.bind_some]; congr 1; omega
theorem impl_greatestDivisor_eq (a b : Int) (h : -9223372036854775808 < a) (h2 : a ≤ 9223372036854775807) (h3 : -9223372036854775808 < b) (h4 : b ≤ 9223372036854775807) :
  impl_greatestDivisor a b = some ((Int.gcd a b : Nat) : Int) := by
 simp only [impl_greatestDivisor, impl_abs_eq a h h2, impl_abs_eq b h3 h4, Option.bind_some, impl_gcd_loop, impl_greatestDivisor_k1]
 rfl
theorem spec_raCommon_eq (a b : Int) (h : 0 ≤ a) (h2 : 0 ≤ b) : spec_raCommon a b = some ((Int.gcd a b : Nat) : Int) := by
 obtain ⟨m, rfl⟩ := Int.eq_ofNat_of_zero_le h
 obtain ⟨n, rfl⟩ := Int.eq_ofNat_of_zero_le h2
 simp only [spec_raCommon]
 rw [spec_gcd_loop]
 rfl
def isRat (r : Int × Int) : Bool := inB 1 1000000000 r.2 && (inB (-1000000000) 1000000000 r.1 && (Int.gcd r.1 r.2 : Int) == 1)
theorem isRat_iff {r : Int × Int} : isRat r = true ↔ 1 ≤ r.2 ∧ r.2 ≤ 1000000000 ∧ -1000000000 ≤ r.1 ∧ r.1 ≤ 1000000000 ∧ Int.gcd r.1 r.2 = 1 := by
 simp only [isRat, Bool.and_eq_true, inB_iff, beq_iff_eq]
 constructor
 ·rintro ⟨⟨h1, h2⟩, ⟨h3, h4⟩, h5⟩; exact ⟨h1, h2, h3, h4, by omega⟩
 ·rintro ⟨h1, h2, h3, h4, h5⟩; exact ⟨⟨h1, h2⟩, ⟨h3, h4⟩, by omega⟩
theorem impl_isRat_eq (r : Int × Int) : impl_isRat r = some (isRat r) := by
 unfold impl_isRat isRat
 simp only [impl_within_eq, Option.bind_some]
 cases h1 : inB 1 1000000000 r.2
 ·rfl
 ·cases h2 : inB (-1000000000) 1000000000 r.1
  ·rfl
  ·have h1' := inB_iff.1 h1
   have h2' := inB_iff.1 h2
   simp only [if_true, impl_greatestDivisor_eq r.1 r.2 (by omega) (by omega) (by omega) (by omega), Option.bind_some, Bool.true_and]
theorem spec_raGood_eq (r : Int × Int) : spec_raGood r = some (isRat r) := by
 unfold spec_raGood isRat
 simp only [spec_l1In_eq, Option.bind_some]
 cases h1 : inB 1 1000000000 r.2
 ·rfl
 ·cases h2 : inB (-1000000000) 1000000000 r.1
  ·rfl
  ·have h1' := inB_iff.1 h1
   have h2' := inB_iff.1 h2
   simp only [if_true, spec_l1Abs_eq r.1 (by omega) (by omega), spec_raCommon_eq _ r.2 (Int.natCast_nonneg _) (by omega), Option.bind_some, Bool.true_and]
   rfl
theorem impl_areRats_eq (l : List (Int × Int)) (hl : l.length ≤ 4611686018427387904) : impl_areRats l = some (l.all isRat) := by
 have h := loop_any (xs := l) (body := impl_areRats_b1 l) (fun x => !isRat x) (fun i => (i : Int)) (.inl false) (.inr ()) (fun i x hx => by
  have hi := getElem?_lt hx
  simp only [impl_areRats_b1, idxO_nat, hx, impl_isRat_eq, Option.bind_some, w64_nat (show i < 9223372036854775807 by omega), show ((i : Int) < (l.length : Int)) from by omega, decide_true, if_true]
  cases isRat x <;> rfl) (by simp [impl_areRats_b1])
 unfold impl_areRats
 rw [show (0 : Int) = ((0 : Nat) : Int) from rfl, h, List.any_eq_not_all_not]
 simp only [Bool.not_not]
 cases l.all isRat <;> rfl
def lowest (n d : Int) : (Int × Int) × Bool :=
 let g := if d < 0 then -(Int.gcd n d : Int) else Int.gcd n d
 if isRat (Int.tdiv n g, Int.tdiv d g) then ((Int.tdiv n g, Int.tdiv d g), true) else ((0, 0), false)
theorem mul_le_9 {a b : Int} (ha : -1000000000 ≤ a) (ha2 : a ≤ 1000000000) (hb : -1000000000 ≤ b) (hb2 : b ≤ 1000000000) : -1000000000000000000 ≤ a * b ∧ a * b ≤ 1000000000000000000 := by
 have h1 : (a * b).natAbs ≤ 1000000000 * 1000000000 := by
  rw [Int.natAbs_mul]; exact Nat.mul_le_mul (by omega) (by omega)
 omega
def near (r : Int × Int) : Bool := isRat r && inB (-1000 * r.2) (1000 * r.2) r.1
def cmp (a b : Int × Int) : Int := if a.1 * b.2 < b.1 * a.2 then -1 else if a.1 * b.2 > b.1 * a.2 then 1 else 0
def tame (r : Int × Int) : Prop := -1000000000 ≤ r.1 ∧ r.1 ≤ 1000000000 ∧ -1000000000 ≤ r.2 ∧ r.2 ≤ 1000000000
theorem tame_of {r : Int × Int} (h : isRat r = true) : tame r := by
 obtain ⟨h1, h2, h3, h4, _⟩ := isRat_iff.1 h
 exact ⟨h3, h4, by omega, h2⟩
theorem impl_compare_eq (a b : Int × Int) (ha : tame a) (hb : tame b) : impl_compare a b = some (cmp a b) := by
 obtain ⟨a1, a2, a3, a4⟩ := ha
 obtain ⟨b1, b2, b3, b4⟩ := hb
 have m1 := mul_le_9 a1 a2 b3 b4
 have m2 := mul_le_9 b1 b2 a3 a4
 unfold impl_compare cmp
 rw [w64_id (n := a.1 * b.2) (by omega) (by omega), w64_id (n := b.1 * a.2) (by omega) (by omega)]
 by_cases h1 : a.1 * b.2 < b.1 * a.2
 ·simp [h1]
 ·by_cases h2 : a.1 * b.2 > b.1 * a.2
  ·simp [h1, h2]
  ·simp [h1, h2]
def less (a b : Int × Int) : Bool := decide (a.1 * b.2 < b.1 * a.2)
theorem impl_less_eq (a b : Int × Int) (ha : tame a) (hb : tame b) : impl_less a b = some (less a b) := by
 unfold impl_less less
 rw [impl_compare_eq a b ha hb]
 unfold cmp
 by_cases h1 : a.1 * b.2 < b.1 * a.2
 ·simp [h1]
 ·by_cases h2 : a.1 * b.2 > b.1 * a.2
  ·simp [h1, h2]
  ·simp [h1, h2]
def floorDiv (n d : Int) : Int := if Int.tmod n d < 0 then Int.tdiv n d - 1 else Int.tdiv n d
def reduceRat (r : Int × Int) : (Int × Int) × Bool := if near r then ((r.1 - floorDiv r.1 r.2 * r.2, r.2), true) else ((0, 0), false)
end Go.PV

set_option linter.all false
namespace Go.PV
abbrev Pt := (Int × Int) × (Int × Int)
def zP : Pt := ((0, 0), (0, 0))
theorem spec_raCmp_eq (a b : Int × Int) (ha : tame a) (hb : tame b) : spec_raCmp a b = some (cmp a b) := by
 obtain ⟨a1, a2, a3, a4⟩ := ha
 obtain ⟨b1, b2, b3, b4⟩ := hb
 have m1 := mul_le_9 a1 a2 b3 b4
 have m2 := mul_le_9 b1 b2 a3 a4
 unfold spec_raCmp spec_l1Sign cmp
 rw [w64_id (n := a.1 * b.2) (by omega) (by omega), w64_id (n := b.1 * a.2) (by omega) (by omega), w64_id (n := a.1 * b.2 - b.1 * a.2) (by omega) (by omega)]
 by_cases h1 : a.1 * b.2 < b.1 * a.2
 ·have : ¬ (a.1 * b.2 - b.1 * a.2 > 0) := by omega
  have h3 : a.1 * b.2 - b.1 * a.2 < 0 := by omega
  simp [h1, h3]; omega
 ·by_cases h2 : a.1 * b.2 > b.1 * a.2
  ·have : a.1 * b.2 - b.1 * a.2 > 0 := by omega
   simp [h1, h2, this]
  ·have h3 : ¬ (a.1 * b.2 - b.1 * a.2 > 0) := by omega
   have h4 : ¬ (a.1 * b.2 - b.1 * a.2 < 0) := by omega
   simp [h1, h2, h3, h4]
theorem cmp_gt (a b : Int × Int) : decide (cmp a b > 0) = less b a := by
 unfold cmp less
 by_cases h1 : a.1 * b.2 < b.1 * a.2
 ·have : ¬ b.1 * a.2 < a.1 * b.2 := by omega
  simp [h1, this]
 ·by_cases h2 : a.1 * b.2 > b.1 * a.2
  ·simp [h1, h2]
  ·have : ¬ b.1 * a.2 < a.1 * b.2 := by omega
   simp [h1, h2]
def isUnit (r : Int × Int) : Bool := isRat r && inB 0 r.2 r.1
def coord (r : Int × Int) : Bool := isUnit r && decide (r.2 ≤ 100)
def goodPt (p : Pt) : Bool := coord p.1 && (isRat p.2 && (decide (p.2.2 ≤ 100) && inB (-5 * p.2.2) (5 * p.2.2) p.2.1))
def stepPt (a b : Pt) : Bool := less a.1 b.1 && !less b.2 a.2
def steps (xs : List Pt) (n : Nat) : Prop := ∀ i a b, 0 < i → i < n → xs[i - 1]? = some a → xs[i]? = some b → stepPt a b = true
def ends (xs : List Pt) : Bool := match xs[0]?, xs[xs.length - 1]? with
 | some a, some b => (a.1 == (0, 1)) && ((b.1 == (1, 1)) && (b.2 == (a.2.1 + a.2.2, a.2.2)))
 | _, _ => false
open Classical in
noncomputable def isLift (xs : List Pt) : Bool := inB 2 12 xs.length && (decide (xs.all goodPt = true ∧ steps xs xs.length) && ends xs)
end Go.PV

/-
 Plain laws: numerals.
 Conditions: none.
-/
set_option linter.all false
namespace Go.PV
def decB (n : Nat) : ByteArray := ⟨(Lib.decDigits n).toArray⟩
theorem ba_app (a b : List UInt8) : (ByteArray.mk a.toArray) ++ (ByteArray.mk b.toArray) = ByteArray.mk (a ++ b).toArray := by
 apply ByteArray.ext
 rw [ByteArray.data_append]
 simp
theorem ba_size (a : List UInt8) : (ByteArray.mk a.toArray).size = a.length := by simp [ByteArray.size]
theorem dec_len (n : Nat) : (Lib.decDigits n).length ≤ n + 1 := by
 induction n using Nat.strongRecOn with
 | ind n ih =>
  unfold Lib.decDigits
  split
  ·simp
  ·rename_i h
   have := ih (n / 10) (by omega)
   simp only [List.length_append, List.length_singleton]
   omega
theorem byteB_digit {d : Nat} (hd : d < 10) : byteB (IntKind.wrap .u8 (w64 (48 + (d : Int)))) = ByteArray.mk [UInt8.ofNat (48 + d)].toArray := by
 have h : IntKind.wrap .u8 (w64 (48 + (d : Int))) = ((48 + d : Nat) : Int) := by
  rw [w64_id (by omega) (by omega)]
  simp [IntKind.wrap, IntKind.bits, IntKind.signed]
  omega
 rw [h]; rfl
theorem l1Num_step {rc : Int → Option ByteArray} {n : Nat} (hn : n ≤ 1000000000) (h : 10 ≤ n → rc ((n / 10 : Nat) : Int) = some (decB (n / 10))) : spec_l1Num_r rc (n : Int) = some (decB n) := by
 unfold spec_l1Num_r
 by_cases h1 : n < 10
 ·rw [if_pos (decide_eq_true (by omega)), byteB_digit h1]
  unfold decB Lib.decDigits
  rw [dif_pos h1]
 ·rw [if_neg (by simp; omega)]
  have e1 : Int.tdiv (n : Int) 10 = ((n / 10 : Nat) : Int) := by rw [Int.tdiv_eq_ediv_of_nonneg (by omega)]; omega
  have e2 : Int.tmod (n : Int) 10 = ((n % 10 : Nat) : Int) := by rw [Int.tmod_eq_emod_of_nonneg (by omega)]; omega
  have hd : n % 10 < 10 := Nat.mod_lt _ (by omega)
  have hl := dec_len (n / 10)
  rw [e1, e2, w64_id (n := ((n / 10 : Nat) : Int)) (by omega) (by omega), h (by omega), Option.bind_some, byteB_digit hd]
  have hs : (decB (n / 10)).size + (ByteArray.mk [UInt8.ofNat (48 + n % 10)].toArray).size ≤ 1099511627776 := by
   unfold decB; rw [ba_size, ba_size]; simp only [List.length_singleton]; omega
  rw [guardO_bind_pos hs]
  unfold decB
  rw [ba_app]
  conv => rhs; unfold Lib.decDigits
  rw [dif_neg h1]
theorem l1Num_all : ∀ (k n : Nat), n ≤ 1000000000 → n < k → spec_l1Num_f k (n : Int) = some (decB n)
 | 0, n, _, h => by omega
 | k + 1, n, hn, h => l1Num_step hn fun h10 => l1Num_all k (n / 10) (by omega) (by omega)
theorem l1Num_some : ∀ (k n : Nat) (r : ByteArray), n ≤ 1000000000 → spec_l1Num_f k (n : Int) = some r → r = decB n
 | 0, n, r, _, h => by cases h
 | k + 1, n, r, hn, h => by
  by_cases h10 : 10 ≤ n
  ·have h' : spec_l1Num_r (spec_l1Num_f k) (n : Int) = some r := h
   cases hq : spec_l1Num_f k ((n / 10 : Nat) : Int) with
   | none =>
    unfold spec_l1Num_r at h'
    have e1 : Int.tdiv (n : Int) 10 = ((n / 10 : Nat) : Int) := by rw [Int.tdiv_eq_ediv_of_nonneg (by omega)]; omega
    rw [if_neg (by simp; omega), e1, w64_id (n := ((n / 10 : Nat) : Int)) (by omega) (by omega), hq] at h'
    cases h'
   | some r' =>
    have := l1Num_some k (n / 10) r' (by omega) hq
    subst this
    have := l1Num_step (rc := spec_l1Num_f k) hn fun _ => hq
    rw [this] at h'
    exact (Option.some.inj h').symm
  ·have := l1Num_step (rc := spec_l1Num_f k) hn fun h => absurd h h10
   have h' : spec_l1Num_r (spec_l1Num_f k) (n : Int) = some r := h
   rw [this] at h'
   exact (Option.some.inj h').symm
theorem spec_l1Num_eq {n : Nat} (hn : n ≤ 1000000000) : spec_l1Num (n : Int) = some (decB n) := by
 unfold spec_l1Num
 exact fuelO_eq (n + 1) (l1Num_all (n + 1) n hn (by omega)) fun k r h => l1Num_some k n r hn h
theorem itoaB_size {n : Int} (h1 : -1000000000 ≤ n) (h2 : n ≤ 1000000000) : (itoaB n).size ≤ 1000000002 := by
 unfold itoaB Lib.itoa
 rw [ba_size]
 split
 ·have := dec_len n.natAbs; simp only [List.length_cons]; omega
 ·have := dec_len n.toNat; omega
theorem spec_l1Int_eq {n : Int} (h1 : -1000000000 ≤ n) (h2 : n ≤ 1000000000) : spec_l1Int n = some (itoaB n) := by
 unfold spec_l1Int
 by_cases h : n < 0
 ·obtain ⟨m, rfl⟩ : ∃ m : Nat, n = -(m : Int) := ⟨n.natAbs, by omega⟩
  have e : w64 (0 - -(m : Int)) = (m : Int) := by rw [w64_id (by omega) (by omega)]; omega
  rw [if_pos (decide_eq_true h), e, spec_l1Num_eq (by omega), Option.bind_some]
  have hl := dec_len m
  have hs : (ByteArray.mk #[45]).size + (decB m).size ≤ 1099511627776 := by
   unfold decB; rw [show (ByteArray.mk #[45]).size = 1 from rfl, ba_size]; omega
  rw [guardO_bind_pos hs]
  unfold itoaB Lib.itoa decB
  rw [if_pos h, show (ByteArray.mk #[45]) = ByteArray.mk [45].toArray from rfl, ba_app, show (-(m : Int)).natAbs = m by omega]
  rfl
 ·obtain ⟨m, rfl⟩ := Int.eq_ofNat_of_zero_le (show 0 ≤ n by omega)
  rw [if_neg (by simpa using h), spec_l1Num_eq (by omega), Option.bind_some]
  unfold itoaB Lib.itoa decB
  rw [if_neg h, Int.toNat_natCast]
theorem strconv_Itoa_eq {n : Int} (h1 : -1000000000 ≤ n) (h2 : n ≤ 1000000000) : strconv_Itoa n = some (itoaB n) := by
 unfold strconv_Itoa
 rw [guardO_bind_pos ⟨by omega, by omega⟩]
def ratB (r : Int × Int) : ByteArray := itoaB r.1 ++ ByteArray.mk #[47] ++ itoaB r.2
theorem both_ratText {r : Int × Int} (h : isRat r = true) : spec_raText r = some (ratB r) ∧ impl_ratText r = some (ratB r) ∧ (ratB r).size ≤ 3000000000 := by
 obtain ⟨r1, r2, r3, r4, _⟩ := isRat_iff.1 h
 have a := itoaB_size (n := r.1) (by omega) (by omega)
 have b := itoaB_size (n := r.2) (by omega) (by omega)
 have c : (ByteArray.mk #[47]).size = 1 := rfl
 have g1 : (itoaB r.1).size + (ByteArray.mk #[47]).size ≤ 1099511627776 := by omega
 have g2 : (itoaB r.1 ++ ByteArray.mk #[47]).size + (itoaB r.2).size ≤ 1099511627776 := by rw [ByteArray.size_append]; omega
 have hnum : spec_l1Num r.2 = some (itoaB r.2) := by
  obtain ⟨m, hm⟩ := Int.eq_ofNat_of_zero_le (show 0 ≤ r.2 by omega)
  rw [hm, spec_l1Num_eq (by omega)]
  unfold itoaB Lib.itoa decB
  rw [if_neg (by omega), Int.toNat_natCast]
 refine ⟨?_, ?_, ?_⟩
 ·unfold spec_raText
  rw [spec_l1Int_eq (by omega) (by omega), Option.bind_some, guardO_bind_pos g1, hnum, Option.bind_some, guardO_bind_pos g2]
  rfl
 ·unfold impl_ratText
  rw [strconv_Itoa_eq (by omega) (by omega), Option.bind_some, guardO_bind_pos g1, strconv_Itoa_eq (by omega) (by omega), Option.bind_some, guardO_bind_pos g2]
  rfl
 ·unfold ratB
  rw [ByteArray.size_append, ByteArray.size_append]; omega
theorem both_BoundsText (a b : Int × Int) : ∃ r, spec_BoundsText a b = some r ∧ impl_BoundsText a b = some r := by
 unfold spec_BoundsText impl_BoundsText
 rw [impl_areRats_eq _ (by simp)]
 cases ha : isRat a
 ·refine ⟨(ByteArray.empty, false), ?_, ?_⟩
  ·simp [spec_raGood_eq, ha]
  ·simp [ha]
 ·cases hb : isRat b
  ·refine ⟨(ByteArray.empty, false), ?_, ?_⟩
   ·simp [spec_raGood_eq, ha, hb]
   ·simp [ha, hb]
  ·obtain ⟨s1, i1, z1⟩ := both_ratText ha
   obtain ⟨s2, i2, z2⟩ := both_ratText hb
   have c : (ByteArray.mk #[46, 46]).size = 2 := rfl
   have g1 : (ratB a).size + (ByteArray.mk #[46, 46]).size ≤ 1099511627776 := by omega
   have g2 : (ratB a ++ ByteArray.mk #[46, 46]).size + (ratB b).size ≤ 1099511627776 := by rw [ByteArray.size_append]; omega
   have hall : ([a, b] : List (Int × Int)).all isRat = true := by simp [ha, hb]
   simp only [spec_raGood_eq, ha, hb, hall, Option.bind_some, Bool.not_true, Bool.false_eq_true, if_false, spec_raCmp_eq a b (tame_of ha) (tame_of hb), cmp_gt, impl_less_eq b a (tame_of hb) (tame_of ha)]
   cases hl : less b a
   ·simp only [Bool.false_eq_true, if_false, s1, s2, i1, i2, Option.bind_some, guardO_bind_pos g1, guardO_bind_pos g2]
    exact ⟨_, rfl, rfl⟩
   ·exact ⟨_, rfl, rfl⟩
theorem laws_FnExactBoundsText_eq (a b : Int × Int) : laws_FnExactBoundsText a b = some true := by
 obtain ⟨r, e1, e2⟩ := both_BoundsText a b
 unfold laws_FnExactBoundsText laws_toRat
 simp only [Option.bind_some, e1, e2, beq_self_eq_true, Bool.not_true, Bool.or_self, Bool.false_eq_true, if_false]
end Go.PV
