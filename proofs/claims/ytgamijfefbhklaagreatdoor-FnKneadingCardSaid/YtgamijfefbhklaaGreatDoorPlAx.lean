/-
  Plain laws of what the functions answer.
  Conditions: none.
-/
import Derived.KernelRfl
import Derived.Test.YtgamijfefbhklaaGreatDoorPvCx
import Derived.Test.YtgamijfefbhklaaGreatDoorDf
set_option linter.all false
/-
 Plain laws: bounds, lists of numbers, vectors.
 Conditions: none.
-/
namespace Go.PV
def inB (a b n : Int) : Bool := decide (a ≤ n) && decide (n ≤ b)
theorem inB_iff {a b n : Int} : inB a b n = true ↔ a ≤ n ∧ n ≤ b := by simp [inB]
theorem spec_l1In_eq (v a b : Int) : spec_l1In v a b = some (inB a b v) := rfl
theorem impl_within_eq (v a b : Int) : impl_within v a b = some (inB a b v) := rfl
def isVec (xs : List Int) : Bool := inB 1 8 xs.length && xs.all (inB 1 1000000)
end Go.PV

/-
 Plain laws: greatest divisors, fractions, floors, fractions reduced.
 Conditions: none.
-/
namespace Go.PV
theorem toNat_gcd_step (a b : Nat) (hb : b ≠ 0) : Nat.gcd b (a % b) = Nat.gcd a b := by
 rw [Nat.gcd_comm a b, Nat.gcd_rec b a, Nat.gcd_comm]
theorem impl_gcd_loop (b : Nat) : ∀ a : Nat, loopO impl_greatestDivisor_b1 ((a : Int), (b : Int)) = some ((Nat.gcd a b : Nat) : Int) := by
 induction b using Nat.strongRecOn with
 | ind b ih =>
  intro a
  rw [loopO_eq]
  by_cases hb : b = 0
  ·subst hb; simp [impl_greatestDivisor_b1]
  ·have hb' : ((b : Int) != 0) = true := by simp; omega
   simp only [impl_greatestDivisor_b1, hb', if_true, guardO_bind_pos (show (b : Int) ≠ 0 by omega)]
   have : Int.tmod (a : Int) (b : Int) = ((a % b : Nat) : Int) := rfl
   rw [this, ih (a % b) (Nat.mod_lt _ (by omega)) b, toNat_gcd_step a b hb]
theorem spec_gcd_loop (b : Nat) : ∀ a : Nat, loopO spec_raCommon_b1 ((a : Int), (b : Int)) = some ((Nat.gcd a b : Nat) : Int) := by
 induction b using Nat.strongRecOn with
 | ind b ih =>
  intro a
  rw [loopO_eq]
  by_cases hb : b = 0
  ·subst hb; simp [spec_raCommon_b1]
  ·have hb' : decide ((b : Int) > 0) = true := by simp; omega
   simp only [spec_raCommon_b1, hb', if_true, guardO_bind_pos (show (b : Int) ≠ 0 by omega)]
   have : Int.tmod (a : Int) (b : Int) = ((a % b : Nat) : Int) := rfl
   rw [this, ih (a % b) (Nat.mod_lt _ (by omega)) b, toNat_gcd_step a b hb]
theorem impl_abs_eq (a : Int) (h : -9223372036854775808 < a) (h2 : a ≤ 9223372036854775807) : impl_abs a = some (a.natAbs : Int) := by
 unfold impl_abs
 by_cases ha : a < 0
 ·simp only [ha, decide_true, if_true]; rw [w64_id (by omega) (by omega)]; congr 1; omega
 ·simp only [ha, decide_false, Bool.false_eq_true, if_false]; congr 1; omega
theorem spec_l1Abs_eq (a : Int) (h : -9223372036854775808 < a) (h2 : a ≤ 9223372036854775807) : spec_l1Abs a = some (a.natAbs : Int) := by
 unfold spec_l1Abs spec_l1Most
 rw [w64_id (by omega) (by omega)]
 by_cases ha : a > 0 - a
 ·simp only [ha, decide_true, if_true, Option.bind_some]; congr 1; omega
 ·simp only [ha, decide_false, Bool.false_eq_true, if_false, Option.bind_some]; congr 1; omega
theorem impl_greatestDivisor_eq (a b : Int) (h : -9223372036854775808 < a) (h2 : a ≤ 9223372036854775807) (h3 : -9223372036854775808 < b) (h4 : b ≤ 9223372036854775807) :
  impl_greatestDivisor a b = some ((Int.gcd a b : Nat) : Int) := by
 simp only [impl_greatestDivisor, impl_abs_eq a h h2, impl_abs_eq b h3 h4, Option.bind_some, impl_gcd_loop, impl_greatestDivisor_k1]
 rfl
theorem spec_raCommon_eq (a b : Int) (h : 0 ≤ a) (h2 : 0 ≤ b) : spec_raCommon a b = some ((Int.gcd a b : Nat) : Int) := by
 obtain ⟨m, rfl⟩ := Int.eq_ofNat_of_zero_le h
 obtain ⟨n, rfl⟩ := Int.eq_ofNat_of_zero_le h2
 simp only [spec_raCommon]
 rw [spec_gcd_loop]
 rfl
def isRat (r : Int × Int) : Bool := inB 1 1000000000 r.2 && (inB (-1000000000) 1000000000 r.1 && (Int.gcd r.1 r.2 : Int) == 1)
theorem isRat_iff {r : Int × Int} : isRat r = true ↔ 1 ≤ r.2 ∧ r.2 ≤ 1000000000 ∧ -1000000000 ≤ r.1 ∧ r.1 ≤ 1000000000 ∧ Int.gcd r.1 r.2 = 1 := by
 simp only [isRat, Bool.and_eq_true, inB_iff, beq_iff_eq]
 constructor
 ·rintro ⟨⟨h1, h2⟩, ⟨h3, h4⟩, h5⟩; exact ⟨h1, h2, h3, h4, by omega⟩
 ·rintro ⟨h1, h2, h3, h4, h5⟩; exact ⟨⟨h1, h2⟩, ⟨h3, h4⟩, by omega⟩
theorem impl_isRat_eq (r : Int × Int) : impl_isRat r = some (isRat r) := by
 unfold impl_isRat isRat
 simp only [impl_within_eq, Option.bind_some]
 cases h1 : inB 1 1000000000 r.2
 ·rfl
 ·cases h2 : inB (-1000000000) 1000000000 r.1
  ·rfl
  ·have h1' := inB_iff.1 h1
   have h2' := inB_iff.1 h2
   simp only [if_true, impl_greatestDivisor_eq r.1 r.2 (by omega) (by omega) (by omega) (by omega), Option.bind_some, Bool.true_and]
theorem spec_raGood_eq (r : Int × Int) : spec_raGood r = some (isRat r) := by
 unfold spec_raGood isRat
 simp only [spec_l1In_eq, Option.bind_some]
 cases h1 : inB 1 1000000000 r.2
 ·rfl
 ·cases h2 : inB (-1000000000) 1000000000 r.1
  ·rfl
  ·have h1' := inB_iff.1 h1
   have h2' := inB_iff.1 h2
   simp only [if_true, spec_l1Abs_eq r.1 (by omega) (by omega), spec_raCommon_eq _ r.2 (Int.natCast_nonneg _) (by omega), Option.bind_some, Bool.true_and]
   rfl
theorem impl_areRats_eq (l : List (Int × Int)) (hl : l.length ≤ 4611686018427387904) : impl_areRats l = some (l.all isRat) := by
 have h := loop_any (xs := l) (body := impl_areRats_b1 l) (fun x => !isRat x) (fun i => (i : Int)) (.inl false) (.inr ()) (fun i x hx => by
  have hi := getElem?_lt hx
  simp only [impl_areRats_b1, idxO_nat, hx, impl_isRat_eq, Option.bind_some, w64_nat (show i < 9223372036854775807 by omega), show ((i : Int) < (l.length : Int)) from by omega, decide_true, if_true]
  cases isRat x <;> rfl) (by simp [impl_areRats_b1])
 unfold impl_areRats
 rw [show (0 : Int) = ((0 : Nat) : Int) from rfl, h, List.any_eq_not_all_not]
 simp only [Bool.not_not]
 cases l.all isRat <;> rfl
def lowest (n d : Int) : (Int × Int) × Bool :=
 let g := if d < 0 then -(Int.gcd n d : Int) else Int.gcd n d
 if isRat (Int.tdiv n g, Int.tdiv d g) then ((Int.tdiv n g, Int.tdiv d g), true) else ((0, 0), false)
theorem tdiv_w64 (n g : Int) (h : -9223372036854775808 < n) (h2 : n ≤ 9223372036854775807) (hg : g ≠ 0) : w64 (Int.tdiv n g) = Int.tdiv n g := by
 have h1 : (Int.tdiv n g).natAbs ≤ n.natAbs := by rw [Int.natAbs_tdiv]; exact Nat.div_le_self _ _
 exact w64_id (by omega) (by omega)
theorem impl_lowest_eq (n d : Int) (hd : d ≠ 0) (h : -9223372036854775808 < n) (h2 : n ≤ 9223372036854775807) (h3 : -9223372036854775808 < d) (h4 : d ≤ 9223372036854775807) : impl_lowest n d = some (lowest n d) := by
 have hg0 : Int.gcd n d ≠ 0 := by rw [Ne, Int.gcd_eq_zero_iff]; omega
 have hgl : (Int.gcd n d : Int) ≤ 9223372036854775807 := by
  have : Int.gcd n d ≤ d.natAbs := Nat.gcd_le_right _ (by omega)
  omega
 have key : ∀ g : Int, g ≠ 0 → impl_lowest_k1 n d g = some (if isRat (Int.tdiv n g, Int.tdiv d g) then ((Int.tdiv n g, Int.tdiv d g), true) else ((0, 0), false)) := fun g hg => by
  simp only [impl_lowest_k1, guardO_bind_pos hg, tdiv_w64 n g h h2 hg, tdiv_w64 d g h3 h4 hg, impl_isRat_eq, Option.bind_some]
  cases isRat (Int.tdiv n g, Int.tdiv d g) <;> rfl
 unfold impl_lowest lowest
 simp only [impl_greatestDivisor_eq n d h h2 h3 h4, Option.bind_some]
 by_cases hneg : d < 0
 ·simp only [hneg, decide_true, if_true]
  rw [show (0 : Int) - (Int.gcd n d : Int) = -(Int.gcd n d : Int) by omega, w64_id (by omega) (by omega), key _ (by omega)]
 ·simp only [hneg, decide_false, Bool.false_eq_true, if_false]
  rw [key _ (by omega)]
theorem mul_le_9 {a b : Int} (ha : -1000000000 ≤ a) (ha2 : a ≤ 1000000000) (hb : -1000000000 ≤ b) (hb2 : b ≤ 1000000000) : -1000000000000000000 ≤ a * b ∧ a * b ≤ 1000000000000000000 := by
 have h1 : (a * b).natAbs ≤ 1000000000 * 1000000000 := by
  rw [Int.natAbs_mul]; exact Nat.mul_le_mul (by omega) (by omega)
 omega
theorem impl_AddRats_eq (a b : Int × Int) : impl_AddRats a b = some (if isRat a && isRat b then lowest (a.1 * b.2 + b.1 * a.2) (a.2 * b.2) else ((0, 0), false)) := by
 unfold impl_AddRats
 rw [impl_areRats_eq _ (by simp)]
 simp only [Option.bind_some, List.all_cons, List.all_nil, Bool.and_true]
 cases ha : isRat a
 ·rfl
 ·cases hb : isRat b
  ·rfl
  ·obtain ⟨a1, a2, a3, a4, _⟩ := isRat_iff.1 ha
   obtain ⟨b1, b2, b3, b4, _⟩ := isRat_iff.1 hb
   have m1 := mul_le_9 a3 a4 (show -1000000000 ≤ b.2 by omega) b2
   have m2 := mul_le_9 b3 b4 (show -1000000000 ≤ a.2 by omega) a2
   have m3 := mul_le_9 (show -1000000000 ≤ a.2 by omega) a2 (show -1000000000 ≤ b.2 by omega) b2
   have hne : a.2 * b.2 ≠ 0 := Int.mul_ne_zero (by omega) (by omega)
   simp only [Bool.and_self, Bool.not_true, Bool.false_eq_true, if_false, if_true]
   rw [w64_id (n := a.1 * b.2) (by omega) (by omega), w64_id (n := b.1 * a.2) (by omega) (by omega), w64_id (n := a.1 * b.2 + b.1 * a.2) (by omega) (by omega), w64_id (n := a.2 * b.2) (by omega) (by omega), impl_lowest_eq _ _ hne (by omega) (by omega) (by omega) (by omega)]
   rfl
def near (r : Int × Int) : Bool := isRat r && inB (-1000 * r.2) (1000 * r.2) r.1
def cmp (a b : Int × Int) : Int := if a.1 * b.2 < b.1 * a.2 then -1 else if a.1 * b.2 > b.1 * a.2 then 1 else 0
def tame (r : Int × Int) : Prop := -1000000000 ≤ r.1 ∧ r.1 ≤ 1000000000 ∧ -1000000000 ≤ r.2 ∧ r.2 ≤ 1000000000
theorem tame_of {r : Int × Int} (h : isRat r = true) : tame r := by
 obtain ⟨h1, h2, h3, h4, _⟩ := isRat_iff.1 h
 exact ⟨h3, h4, by omega, h2⟩
theorem impl_compare_eq (a b : Int × Int) (ha : tame a) (hb : tame b) : impl_compare a b = some (cmp a b) := by
 obtain ⟨a1, a2, a3, a4⟩ := ha
 obtain ⟨b1, b2, b3, b4⟩ := hb
 have m1 := mul_le_9 a1 a2 b3 b4
 have m2 := mul_le_9 b1 b2 a3 a4
 unfold impl_compare cmp
 rw [w64_id (n := a.1 * b.2) (by omega) (by omega), w64_id (n := b.1 * a.2) (by omega) (by omega)]
 by_cases h1 : a.1 * b.2 < b.1 * a.2
 ·simp [h1]
 ·by_cases h2 : a.1 * b.2 > b.1 * a.2
  ·simp [h1, h2]
  ·simp [h1, h2]
def less (a b : Int × Int) : Bool := decide (a.1 * b.2 < b.1 * a.2)
theorem impl_less_eq (a b : Int × Int) (ha : tame a) (hb : tame b) : impl_less a b = some (less a b) := by
 unfold impl_less less
 rw [impl_compare_eq a b ha hb]
 unfold cmp
 by_cases h1 : a.1 * b.2 < b.1 * a.2
 ·simp [h1]
 ·by_cases h2 : a.1 * b.2 > b.1 * a.2
  ·simp [h1, h2]
  ·simp [h1, h2]
def floorDiv (n d : Int) : Int := if Int.tmod n d < 0 then Int.tdiv n d - 1 else Int.tdiv n d
theorem tdiv_bound (n d : Int) : (Int.tdiv n d).natAbs ≤ n.natAbs := by rw [Int.natAbs_tdiv]; exact Nat.div_le_self _ _
def reduceRat (r : Int × Int) : (Int × Int) × Bool := if near r then ((r.1 - floorDiv r.1 r.2 * r.2, r.2), true) else ((0, 0), false)
end Go.PV

set_option linter.all false
namespace Go.PV
abbrev Pt := (Int × Int) × (Int × Int)
def zP : Pt := ((0, 0), (0, 0))
theorem slices_IndexFunc_Limpl_Point_impl_Point_eq (xs : List Pt) (f : Pt → Option Bool) (p : Pt → Bool) (hf : ∀ x, f x = some (p x)) (hl : xs.length ≤ 4611686018427387904) :
  slices_IndexFunc_Limpl_Point_impl_Point xs f = some (match xs.findIdx? p with | some i => (i : Int) | none => -1) := by
 have h := loop_first (xs := xs) (body := slices_IndexFunc_Limpl_Point_impl_Point_b1 xs f) p (fun i => (i : Int)) (fun i => .inl (i : Int)) (.inr ()) (fun i x hx => by
  have hi := getElem?_lt hx
  simp only [slices_IndexFunc_Limpl_Point_impl_Point_b1, idxO_nat, hx, hf, Option.bind_some, w64_nat (show i < 9223372036854775807 by omega), show ((i : Int) < (xs.length : Int)) from by omega, decide_true, if_true]
  cases p x <;> rfl) (by simp [slices_IndexFunc_Limpl_Point_impl_Point_b1])
 unfold slices_IndexFunc_Limpl_Point_impl_Point
 rw [show (0 : Int) = ((0 : Nat) : Int) from rfl, h]
 cases xs.findIdx? p <;> rfl
theorem slices_ContainsFunc_Limpl_Point_impl_Point_eq (xs : List Pt) (f : Pt → Option Bool) (p : Pt → Bool) (hf : ∀ x, f x = some (p x)) (hl : xs.length ≤ 4611686018427387904) : slices_ContainsFunc_Limpl_Point_impl_Point xs f = some (xs.any p) := by
 simp only [slices_ContainsFunc_Limpl_Point_impl_Point, slices_IndexFunc_Limpl_Point_impl_Point_eq xs f p hf hl, Option.bind_some]
 cases h : xs.findIdx? p with
 | none =>
  have hn := List.findIdx?_eq_none_iff.1 h
  have : xs.any p = false := by simpa using hn
  simp [this]
 | some m =>
  obtain ⟨hm, hp, _⟩ := List.findIdx?_eq_some_iff_getElem.1 h
  have : xs.any p = true := List.any_eq_true.2 ⟨xs[m], List.getElem_mem hm, hp⟩
  simp [this]
theorem spec_raCmp_eq (a b : Int × Int) (ha : tame a) (hb : tame b) : spec_raCmp a b = some (cmp a b) := by
 obtain ⟨a1, a2, a3, a4⟩ := ha
 obtain ⟨b1, b2, b3, b4⟩ := hb
 have m1 := mul_le_9 a1 a2 b3 b4
 have m2 := mul_le_9 b1 b2 a3 a4
 unfold spec_raCmp spec_l1Sign cmp
 rw [w64_id (n := a.1 * b.2) (by omega) (by omega), w64_id (n := b.1 * a.2) (by omega) (by omega), w64_id (n := a.1 * b.2 - b.1 * a.2) (by omega) (by omega)]
 by_cases h1 : a.1 * b.2 < b.1 * a.2
 ·have : ¬ (a.1 * b.2 - b.1 * a.2 > 0) := by omega
  have h3 : a.1 * b.2 - b.1 * a.2 < 0 := by omega
  simp [h1, h3]; omega
 ·by_cases h2 : a.1 * b.2 > b.1 * a.2
  ·have : a.1 * b.2 - b.1 * a.2 > 0 := by omega
   simp [h1, h2, this]
  ·have h3 : ¬ (a.1 * b.2 - b.1 * a.2 > 0) := by omega
   have h4 : ¬ (a.1 * b.2 - b.1 * a.2 < 0) := by omega
   simp [h1, h2, h3, h4]
theorem cmp_ge (a b : Int × Int) : decide (cmp a b ≥ 0) = !less a b := by
 unfold cmp less
 by_cases h1 : a.1 * b.2 < b.1 * a.2
 ·simp [h1]
 ·by_cases h2 : a.1 * b.2 > b.1 * a.2 <;> simp [h1, h2]
theorem cmp_zero (a b : Int × Int) : (cmp a b == 0) = (a.1 * b.2 == b.1 * a.2) := by
 unfold cmp
 by_cases h1 : a.1 * b.2 < b.1 * a.2
 ·have : ¬ a.1 * b.2 = b.1 * a.2 := by omega
  simp [h1, this]
 ·by_cases h2 : a.1 * b.2 > b.1 * a.2
  ·have : ¬ a.1 * b.2 = b.1 * a.2 := by omega
   simp [h1, h2, this]
  ·have : a.1 * b.2 = b.1 * a.2 := by omega
   simp [this]
def isUnit (r : Int × Int) : Bool := isRat r && inB 0 r.2 r.1
def coord (r : Int × Int) : Bool := isUnit r && decide (r.2 ≤ 100)
theorem spec_raUnit_eq (r : Int × Int) : spec_raUnit r = some (isUnit r) := by
 unfold spec_raUnit isUnit
 simp only [spec_raGood_eq, Option.bind_some, spec_l1In_eq]
 cases isRat r <;> simp
theorem impl_isUnit_eq (r : Int × Int) : impl_isUnit r = some (isUnit r) := by
 simp [impl_isUnit, impl_isRat_eq, isUnit, inB]
theorem spec_imCoord_eq (r : Int × Int) : spec_imCoord r = some (coord r) := by simp [spec_imCoord, spec_raUnit_eq, coord]
theorem impl_isCoord_eq (r : Int × Int) : impl_isCoord r = some (coord r) := by simp [impl_isCoord, impl_isUnit_eq, coord]
theorem coord_rat {r : Int × Int} (h : coord r = true) : isRat r = true := by
 simp only [coord, isUnit, Bool.and_eq_true] at h
 exact h.1.1
def goodPt (p : Pt) : Bool := coord p.1 && (isRat p.2 && (decide (p.2.2 ≤ 100) && inB (-5 * p.2.2) (5 * p.2.2) p.2.1))
def stepPt (a b : Pt) : Bool := less a.1 b.1 && !less b.2 a.2
def steps (xs : List Pt) (n : Nat) : Prop := ∀ i a b, 0 < i → i < n → xs[i - 1]? = some a → xs[i]? = some b → stepPt a b = true
def ends (xs : List Pt) : Bool := match xs[0]?, xs[xs.length - 1]? with
 | some a, some b => (a.1 == (0, 1)) && ((b.1 == (1, 1)) && (b.2 == (a.2.1 + a.2.2, a.2.2)))
 | _, _ => false
open Classical in
noncomputable def isLift (xs : List Pt) : Bool := inB 2 12 xs.length && (decide (xs.all goodPt = true ∧ steps xs xs.length) && ends xs)
end Go.PV

/-
 Plain laws: lists and tables by their places.
 Conditions: none.
-/
namespace Go.PV
section
variable {α β : Type}
def tab (n : Nat) (f : Nat → α) : List α := (List.range n).map f
theorem tab_len (n : Nat) (f : Nat → α) : (tab n f).length = n := by simp [tab]
theorem tab_get {n i : Nat} {f : Nat → α} (h : i < n) : (tab n f)[i]? = some (f i) := by simp [tab, h]
theorem tab_get_none {n i : Nat} {f : Nat → α} (h : n ≤ i) : (tab n f)[i]? = none := by simp [tab, h]
theorem idxO_tab {n i : Nat} {f : Nat → α} (h : i < n) : idxO (tab n f) (i : Int) = some (f i) := by rw [idxO_nat, tab_get h]
theorem tab_succ (n : Nat) (f : Nat → α) : tab n f ++ [f n] = tab (n + 1) f := by simp [tab, List.range_succ]
theorem tab_zero (f : Nat → α) : tab 0 f = [] := rfl
theorem tab_eta [Inhabited α] (xs : List α) : xs = tab xs.length (fun i => xs.getD i default) := by
 apply List.ext_getElem?
 intro j
 by_cases hj : j < xs.length
 ·rw [tab_get hj]; simp [hj]
 ·rw [tab_get_none (by omega)]; simp; omega
theorem tab_mem {n : Nat} {f : Nat → α} {x : α} : x ∈ tab n f ↔ ∃ i, i < n ∧ f i = x := by simp [tab]
def mat (n m : Nat) (f : Nat → Nat → α) : List (List α) := tab n fun i => tab m (f i)
def foldN (n : Nat) (g : β → Nat → β) (s : β) : β := (List.range n).foldl g s
end
end Go.PV

/-
 Plain laws: graphs, numbers of walks.
 Conditions: none.
-/
namespace Go.PV
def sized (g : List (List Int)) : Prop := g.length ≤ 1048576 ∧ ∀ row ∈ g, row.length ≤ 1048576
def isGraph (g : List (List Int)) : Bool := inB 1 8 g.length && g.all fun row => (row.length : Int) == g.length && row.all (inB 0 9)
end Go.PV

/-
 Plain laws: powers of graphs' tables, numbers of all walks.
 Conditions: none.
-/
namespace Go.PV
def capMul (most acc w a : Int) : Int := if most < w64 (acc + w64 (w * a)) then most else w64 (acc + w64 (w * a))
def powStep (n : Nat) (G : Nat → Nat → Int) (most : Int) (F : Nat → Nat → Int) : Nat → Nat → Int := fun i j => foldN n (fun acc k => capMul most acc (F i k) (G k j)) 0
def idM : Nat → Nat → Int := fun i j => if i = j then 1 else 0
def powN (n : Nat) (G : Nat → Nat → Int) (most : Int) : Nat → Nat → Nat → Int
 | 0 => idM
 | m + 1 => powStep n G most (powN n G most m)
section impl
variable {n : Nat} {G : Nat → Nat → Int} {most : Int}
end impl
section spec
variable {n : Nat} {G : Nat → Nat → Int}
end spec
def capAt (x : Int) : Int := if 1000000001 < x then 1000000001 else x
def total (g : List (List Int)) : Int := (g.map List.sum).sum
def totalWalks (g : List (List Int)) (m : Int) : Int × Bool :=
 if isGraph g && inB 0 12 m then
  let t := total (mat g.length g.length (powN g.length (fun i j => (g.getD i []).getD j 0) 1000000001 m.toNat))
  if t > 1000000000 then (0, false) else (t, true)
 else (0, false)
end Go.PV

set_option linter.all false
namespace Go.PV
theorem lowest_isRat {n d : Int} (h1 : 0 ≤ n) (h2 : n ≤ 1000000000) (h3 : 1 ≤ d) (h4 : d ≤ 1000000000) : isRat (lowest n d).1 = true := by
 have hg : 0 < Int.gcd n d := Int.gcd_pos_of_ne_zero_right _ (by omega)
 have key : isRat (Int.tdiv n (Int.gcd n d : Int), Int.tdiv d (Int.gcd n d : Int)) = true := by
  obtain ⟨a, rfl⟩ := Int.eq_ofNat_of_zero_le h1
  obtain ⟨b, rfl⟩ := Int.eq_ofNat_of_zero_le (show 0 ≤ d by omega)
  have e : Int.gcd (a : Int) (b : Int) = Nat.gcd a b := rfl
  rw [e] at hg ⊢
  have e1 : Int.tdiv (a : Int) ((Nat.gcd a b : Nat) : Int) = ((a / Nat.gcd a b : Nat) : Int) := by rw [Int.tdiv_eq_ediv_of_nonneg (by omega)]; rfl
  have e2 : Int.tdiv (b : Int) ((Nat.gcd a b : Nat) : Int) = ((b / Nat.gcd a b : Nat) : Int) := by rw [Int.tdiv_eq_ediv_of_nonneg (by omega)]; rfl
  rw [e1, e2, isRat_iff]
  have l1 : a / Nat.gcd a b ≤ a := Nat.div_le_self _ _
  have l2 : b / Nat.gcd a b ≤ b := Nat.div_le_self _ _
  have l3 : 0 < b / Nat.gcd a b := Nat.div_pos (Nat.le_of_dvd (by omega) (Nat.gcd_dvd_right a b)) hg
  have l4 : ((a / Nat.gcd a b : Nat) : Int) ≤ 1000000000 := by omega
  have l5 : ((b / Nat.gcd a b : Nat) : Int) ≤ 1000000000 := by omega
  have l6 : 1 ≤ ((b / Nat.gcd a b : Nat) : Int) := by omega
  have l7 : 0 ≤ ((a / Nat.gcd a b : Nat) : Int) := Int.natCast_nonneg _
  generalize hA : ((a / Nat.gcd a b : Nat) : Int) = A at l4 l7 ⊢
  generalize hB : ((b / Nat.gcd a b : Nat) : Int) = B at l5 l6 ⊢
  refine ⟨l6, l5, by show -1000000000 ≤ A; omega, l4, ?_⟩
  rw [← hA, ← hB]
  exact Nat.coprime_div_gcd_div_gcd hg
 have hdn : ¬ d < 0 := by omega
 unfold lowest
 simp only [if_neg hdn]
 rw [if_pos key]
 exact key
theorem spec_raMake_eq (n d : Int) (h1 : 0 ≤ n) (h2 : n ≤ 1000000000) (h3 : 1 ≤ d) (h4 : d ≤ 1000000000) : spec_raMake n d = some (lowest n d) := by
 have hg : 0 < Int.gcd n d := Int.gcd_pos_of_ne_zero_right _ (by omega)
 have hd0 : (d == 0) = false := by simpa using (show d ≠ 0 by omega)
 have hdn : ¬ d < 0 := by omega
 unfold spec_raMake spec_raMake_k1 lowest
 simp only [hd0, Bool.false_eq_true, if_false, spec_l1Abs_eq n (by omega) (by omega), spec_l1Abs_eq d (by omega) (by omega), Option.bind_some, spec_raCommon_eq (n.natAbs : Int) (d.natAbs : Int) (by omega) (by omega), hdn, decide_false]
 have e : Int.gcd (n.natAbs : Int) (d.natAbs : Int) = Int.gcd n d := rfl
 rw [e, guardO_bind_pos (by omega), tdiv_w64 _ _ (by omega) (by omega) (by omega), tdiv_w64 _ _ (by omega) (by omega) (by omega), spec_raGood_eq, Option.bind_some]
 cases isRat (Int.tdiv n (Int.gcd n d : Int), Int.tdiv d (Int.gcd n d : Int)) <;> simp
theorem cmp_same {a b : Int × Int} (ha : isRat a = true) (hb : isRat b = true) (h : a.1 * b.2 = b.1 * a.2) : a = b := by
 obtain ⟨a1, a2, a3, a4, a5⟩ := isRat_iff.1 ha
 obtain ⟨b1, b2, b3, b4, b5⟩ := isRat_iff.1 hb
 obtain ⟨p, q⟩ := a
 obtain ⟨r, s⟩ := b
 simp only at *
 have hn : p.natAbs * s.natAbs = r.natAbs * q.natAbs := by rw [← Int.natAbs_mul, ← Int.natAbs_mul, h]
 have c1 : Nat.Coprime p.natAbs q.natAbs := a5
 have c2 : Nat.Coprime r.natAbs s.natAbs := b5
 have d1 : s.natAbs ∣ q.natAbs := by
  have : s.natAbs ∣ r.natAbs * q.natAbs := ⟨p.natAbs, by rw [← hn]; exact Nat.mul_comm _ _⟩
  exact c2.symm.dvd_of_dvd_mul_left this
 have d2 : q.natAbs ∣ s.natAbs := by
  have : q.natAbs ∣ p.natAbs * s.natAbs := ⟨r.natAbs, by rw [hn]; exact Nat.mul_comm _ _⟩
  exact c1.symm.dvd_of_dvd_mul_left this
 have hqs : q.natAbs = s.natAbs := Nat.dvd_antisymm d2 d1
 have hq : q = s := by omega
 subst hq
 have : p = r := Int.eq_of_mul_eq_mul_right (by omega) h
 rw [this]
def dotN (G : Nat → Int) (v : Nat → Int) (n : Nat) : Int := foldN n (fun s j => s + G j * v j) 0
end Go.PV

/-
 Plain laws: sums, products and quotients of fractions, with what is too large told.
 Conditions: none.
-/
set_option linter.all false
namespace Go.PV
abbrev Rt := Int × Int
def unO : Option Rt → Rt × Bool
 | some r => (r, true)
 | none => ((0, 0), false)
def lowQ (n d : Int) : Option Rt := if (lowest n d).2 = true then some (lowest n d).1 else none
theorem lowest_form (n d : Int) : ∃ x : Rt, lowest n d = if isRat x = true then (x, true) else ((0, 0), false) := ⟨_, rfl⟩
theorem lowest_no {n d : Int} (h : (lowest n d).2 = false) : lowest n d = ((0, 0), false) := by
 obtain ⟨x, e⟩ := lowest_form n d
 rw [e] at h ⊢
 by_cases h2 : isRat x = true
 ·rw [if_pos h2] at h; cases h
 ·rw [if_neg h2]
theorem lowest_unO (n d : Int) : lowest n d = unO (lowQ n d) := by
 unfold lowQ
 cases h : (lowest n d).2
 ·rw [lowest_no h]; rfl
 ·have : lowest n d = ((lowest n d).1, (lowest n d).2) := rfl
  rw [this, h]; rfl
theorem lowest_rat {n d : Int} (h : (lowest n d).2 = true) : isRat (lowest n d).1 = true := by
 obtain ⟨x, e⟩ := lowest_form n d
 rw [e] at h ⊢
 by_cases h2 : isRat x = true
 ·rw [if_pos h2]; exact h2
 ·rw [if_neg h2] at h; cases h
theorem lowQ_rat {n d : Int} {r : Rt} (h : lowQ n d = some r) : isRat r = true := by
 unfold lowQ at h
 split at h
 ·rename_i h2; obtain rfl := Option.some.inj h; exact lowest_rat h2
 ·cases h
theorem spec_raMake_gen (n d : Int) (hd : d ≠ 0) (h1 : -4000000000000000000 ≤ n) (h2 : n ≤ 4000000000000000000) (h3 : -4000000000000000000 ≤ d) (h4 : d ≤ 4000000000000000000) : spec_raMake n d = some (unO (lowQ n d)) := by
 have hg : 0 < Int.gcd n d := Int.gcd_pos_of_ne_zero_right _ hd
 have hd0 : (d == 0) = false := by simpa using hd
 have hgl : (Int.gcd n d : Int) ≤ 4000000000000000000 := by
  have : Int.gcd n d ≤ d.natAbs := Nat.gcd_le_right _ (by omega)
  omega
 have e : Int.gcd (n.natAbs : Int) (d.natAbs : Int) = Int.gcd n d := rfl
 have key : ∀ g : Int, g ≠ 0 → spec_raMake_k1 n d g = some (if isRat (Int.tdiv n g, Int.tdiv d g) then ((Int.tdiv n g, Int.tdiv d g), true) else ((0, 0), false)) := fun g hg => by
  simp only [spec_raMake_k1, guardO_bind_pos hg, tdiv_w64 n g (by omega) (by omega) hg, tdiv_w64 d g (by omega) (by omega) hg, spec_raGood_eq, Option.bind_some]
  cases isRat (Int.tdiv n g, Int.tdiv d g) <;> rfl
 rw [← lowest_unO]
 unfold spec_raMake lowest
 simp only [hd0, Bool.false_eq_true, if_false, spec_l1Abs_eq n (by omega) (by omega), spec_l1Abs_eq d (by omega) (by omega), Option.bind_some, spec_raCommon_eq (n.natAbs : Int) (d.natAbs : Int) (by omega) (by omega), e]
 by_cases hneg : d < 0
 ·simp only [hneg, decide_true, if_true]
  rw [show (0 : Int) - (Int.gcd n d : Int) = -(Int.gcd n d : Int) by omega, w64_id (by omega) (by omega), key _ (by omega)]
 ·simp only [hneg, decide_false, Bool.false_eq_true, if_false]
  rw [key _ (by omega)]
def addQ (a b : Rt) : Option Rt := lowQ (a.1 * b.2 + b.1 * a.2) (a.2 * b.2)
def subQ (a b : Rt) : Option Rt := lowQ (a.1 * b.2 - b.1 * a.2) (a.2 * b.2)
def mulQ (a b : Rt) : Option Rt := lowQ (a.1 * b.1) (a.2 * b.2)
def divQ (a b : Rt) : Option Rt := if b.1 = 0 then none else lowQ (a.1 * b.2) (a.2 * b.1)
theorem addQ_rat {a b r : Rt} (h : addQ a b = some r) : isRat r = true := lowQ_rat h
theorem subQ_rat {a b r : Rt} (h : subQ a b = some r) : isRat r = true := lowQ_rat h
theorem mulQ_rat {a b r : Rt} (h : mulQ a b = some r) : isRat r = true := lowQ_rat h
structure RB (a b : Rt) : Prop where
 m1 : -1000000000000000000 ≤ a.1 * b.2 ∧ a.1 * b.2 ≤ 1000000000000000000
 m2 : -1000000000000000000 ≤ b.1 * a.2 ∧ b.1 * a.2 ≤ 1000000000000000000
 m3 : -1000000000000000000 ≤ a.2 * b.2 ∧ a.2 * b.2 ≤ 1000000000000000000
 m4 : -1000000000000000000 ≤ a.1 * b.1 ∧ a.1 * b.1 ≤ 1000000000000000000
 ne : a.2 * b.2 ≠ 0
 m5 : -1000000000000000000 ≤ a.2 * b.1 ∧ a.2 * b.1 ≤ 1000000000000000000
theorem rb {a b : Rt} (ha : isRat a = true) (hb : isRat b = true) : RB a b := by
 obtain ⟨a1, a2, a3, a4, _⟩ := isRat_iff.1 ha
 obtain ⟨b1, b2, b3, b4, _⟩ := isRat_iff.1 hb
 exact ⟨mul_le_9 a3 a4 (by omega) b2, mul_le_9 b3 b4 (by omega) a2, mul_le_9 (by omega) a2 (by omega) b2, mul_le_9 a3 a4 b3 b4, Int.mul_ne_zero (by omega) (by omega), mul_le_9 (by omega) a2 b3 b4⟩
section spec
variable {a b : Rt} (ha : isRat a = true) (hb : isRat b = true)
include ha hb
theorem spec_raAdd_eq : spec_raAdd a b = some (unO (addQ a b)) := by
 obtain ⟨m1, m2, m3, m4, ne, m5⟩ := rb ha hb
 unfold spec_raAdd addQ
 rw [w64_id (n := a.1 * b.2) (by omega) (by omega), w64_id (n := b.1 * a.2) (by omega) (by omega), w64_id (n := a.2 * b.2) (by omega) (by omega), w64_id (by omega) (by omega), spec_raMake_gen _ _ ne (by omega) (by omega) (by omega) (by omega)]
 rfl
theorem spec_raSub_eq : spec_raSub a b = some (unO (subQ a b)) := by
 obtain ⟨m1, m2, m3, m4, ne, m5⟩ := rb ha hb
 unfold spec_raSub subQ
 rw [w64_id (n := a.1 * b.2) (by omega) (by omega), w64_id (n := b.1 * a.2) (by omega) (by omega), w64_id (n := a.2 * b.2) (by omega) (by omega), w64_id (by omega) (by omega), spec_raMake_gen _ _ ne (by omega) (by omega) (by omega) (by omega)]
 rfl
theorem spec_raMul_eq : spec_raMul a b = some (unO (mulQ a b)) := by
 obtain ⟨m1, m2, m3, m4, ne, m5⟩ := rb ha hb
 unfold spec_raMul mulQ
 rw [w64_id (n := a.1 * b.1) (by omega) (by omega), w64_id (n := a.2 * b.2) (by omega) (by omega), spec_raMake_gen _ _ ne (by omega) (by omega) (by omega) (by omega)]
 rfl
theorem spec_raDiv_eq : spec_raDiv a b = some (unO (divQ a b)) := by
 obtain ⟨m1, m2, m3, m4, ne, m5⟩ := rb ha hb
 obtain ⟨a1, _⟩ := isRat_iff.1 ha
 unfold spec_raDiv divQ
 by_cases h : b.1 = 0
 ·simp [h, unO]
 ·have h' : (b.1 == 0) = false := by simpa using h
  simp only [h', Bool.false_eq_true, if_false, h]
  rw [w64_id (n := a.1 * b.2) (by omega) (by omega), w64_id (n := a.2 * b.1) (by omega) (by omega), spec_raMake_gen _ _ (Int.mul_ne_zero (by omega) h) (by omega) (by omega) (by omega) (by omega)]
  rfl
end spec
def cK (bad : Bool) : Option Rt → Rt × Bool
 | some r => (r, bad)
 | none => ((0, 1), true)
theorem impl_keep_eq (bad : Bool) (o : Option Rt) : impl_calc_keep bad (unO o).1 (unO o).2 = some (cK bad o) := by
 cases o <;> simp [impl_calc_keep, unO, cK, impl_zero]
theorem cK_rat {bad : Bool} {o : Option Rt} (h : ∀ r, o = some r → isRat r = true) : isRat (cK bad o).1 = true := by
 cases o with
 | some r => exact h r rfl
 | none => exact (by decide : isRat (0, 1) = true)
theorem isRat_one : isRat (1, 1) = true := by decide
theorem isRat_neg {a : Rt} (h : isRat a = true) : isRat (0 - a.1, a.2) = true := by
 obtain ⟨h1, h2, h3, h4, h5⟩ := isRat_iff.1 h
 refine isRat_iff.2 ⟨h1, h2, by show -1000000000 ≤ 0 - a.1; omega, by show 0 - a.1 ≤ _; omega, ?_⟩
 show Int.gcd (0 - a.1) a.2 = 1
 rw [Int.zero_sub, Int.neg_gcd]; exact h5
section impl
variable {a b : Rt} (bad : Bool) (ha : isRat a = true) (hb : isRat b = true)
include ha hb
theorem impl_AddRats_q : impl_AddRats a b = some (unO (addQ a b)) := by
 rw [impl_AddRats_eq, ha, hb]
 simp only [Bool.and_self, if_true]
 rw [lowest_unO]; rfl
theorem impl_SubtractRats_q : impl_SubtractRats a b = some (unO (subQ a b)) := by
 obtain ⟨b1, b2, b3, b4, _⟩ := isRat_iff.1 hb
 unfold impl_SubtractRats impl_negated
 rw [w64_id (by omega) (by omega), Option.bind_some, impl_AddRats_q ha (isRat_neg hb), Option.bind_some]
 congr 2
 unfold addQ subQ
 simp only
 congr 1
 rw [Int.sub_mul]; omega
theorem impl_MultiplyRats_q : impl_MultiplyRats a b = some (unO (mulQ a b)) := by
 obtain ⟨m1, m2, m3, m4, ne, m5⟩ := rb ha hb
 unfold impl_MultiplyRats mulQ
 rw [impl_areRats_eq _ (by simp)]
 simp only [Option.bind_some, List.all_cons, List.all_nil, Bool.and_true, ha, hb, Bool.and_self, Bool.not_true, Bool.false_eq_true, if_false]
 rw [w64_id (n := a.1 * b.1) (by omega) (by omega), w64_id (n := a.2 * b.2) (by omega) (by omega), impl_lowest_eq _ _ ne (by omega) (by omega) (by omega) (by omega), lowest_unO]
 rfl
theorem impl_DivideRats_q : impl_DivideRats a b = some (unO (divQ a b)) := by
 obtain ⟨m1, m2, m3, m4, ne, m5⟩ := rb ha hb
 obtain ⟨a1, _⟩ := isRat_iff.1 ha
 unfold impl_DivideRats divQ
 rw [impl_areRats_eq _ (by simp)]
 simp only [Option.bind_some, List.all_cons, List.all_nil, Bool.and_true, ha, hb, Bool.and_self, Bool.not_true, Bool.false_or]
 by_cases h : b.1 = 0
 ·simp [h, unO]
 ·have h' : (b.1 == 0) = false := by simpa using h
  simp only [h', Bool.false_eq_true, if_false, h]
  rw [w64_id (n := a.1 * b.2) (by omega) (by omega), w64_id (n := a.2 * b.1) (by omega) (by omega), impl_lowest_eq _ _ (Int.mul_ne_zero (by omega) h) (by omega) (by omega) (by omega) (by omega), lowest_unO]
  rfl
theorem impl_add_eq : impl_calc_add bad a b = some (cK bad (addQ a b)) := by
 unfold impl_calc_add; rw [impl_AddRats_q ha hb, Option.bind_some, impl_keep_eq]; rfl
theorem impl_sub_eq : impl_calc_sub bad a b = some (cK bad (subQ a b)) := by
 unfold impl_calc_sub; rw [impl_SubtractRats_q ha hb, Option.bind_some, impl_keep_eq]; rfl
theorem impl_mul_eq : impl_calc_mul bad a b = some (cK bad (mulQ a b)) := by
 unfold impl_calc_mul; rw [impl_MultiplyRats_q ha hb, Option.bind_some, impl_keep_eq]; rfl
theorem impl_div_eq : impl_calc_div bad a b = some (cK bad (divQ a b)) := by
 unfold impl_calc_div; rw [impl_DivideRats_q ha hb, Option.bind_some, impl_keep_eq]; rfl
end impl
def absR (r : Rt) : Rt := ((r.1.natAbs : Int), r.2)
def distQ (a b : Rt) : Option Rt := if less a b then subQ b a else subQ a b
theorem lowQ_neg {n d : Int} (hd : 0 < d) : lowQ (-n) d = (lowQ n d).map fun r => (-r.1, r.2) := by
 have hn : ¬ d < 0 := by omega
 have e : isRat (Int.tdiv (-n) (Int.gcd n d : Int), Int.tdiv d (Int.gcd n d : Int)) = isRat (Int.tdiv n (Int.gcd n d : Int), Int.tdiv d (Int.gcd n d : Int)) := by
  rw [Int.neg_tdiv]
  cases h : isRat (Int.tdiv n (Int.gcd n d : Int), Int.tdiv d (Int.gcd n d : Int))
  ·cases h2 : isRat (-Int.tdiv n (Int.gcd n d : Int), Int.tdiv d (Int.gcd n d : Int))
   ·rfl
   ·have := isRat_neg h2
    simp only [Int.zero_sub, Int.neg_neg] at this
    rw [h] at this; cases this
  ·have := isRat_neg h
   simp only [Int.zero_sub] at this
   exact this
 unfold lowQ lowest
 simp only [Int.neg_gcd, if_neg hn, e]
 cases isRat (Int.tdiv n (Int.gcd n d : Int), Int.tdiv d (Int.gcd n d : Int))
 ·rfl
 ·simp [Int.neg_tdiv]
theorem den_pos {a b : Rt} (ha : isRat a = true) (hb : isRat b = true) : 0 < a.2 * b.2 := Int.mul_pos (by have := (isRat_iff.1 ha).1; omega) (by have := (isRat_iff.1 hb).1; omega)
end Go.PV

set_option linter.all false
namespace Go.PV
theorem zero_iff {r : Int × Int} (h : isRat r = true) : (r.1 * 1 == 0 * r.2) = (r == (0, 1)) := by
 obtain ⟨h1, h2, h3, h4, h5⟩ := isRat_iff.1 h
 obtain ⟨n, d⟩ := r
 simp only [Int.mul_one, Int.zero_mul]
 by_cases hn : n = 0
 ·subst hn
  have h6 : d.natAbs = 1 := by simpa using h5
  have h7 : d = 1 := by omega
  subst h7; rfl
 ·have e1 : (n == 0) = false := by simpa using hn
  have e2 : ((n, d) == ((0, 1) : Int × Int)) = false := by simp [hn]
  rw [e1, e2]
theorem one_iff {r : Int × Int} (h : isRat r = true) : (r.1 * 1 == 1 * r.2) = (r == (1, 1)) := by
 obtain ⟨h1, h2, h3, h4, h5⟩ := isRat_iff.1 h
 obtain ⟨n, d⟩ := r
 simp only [Int.mul_one, Int.one_mul]
 by_cases hn : n = d
 ·subst hn
  have h6 : n.natAbs = 1 := by simpa using h5
  have h7 : n = 1 := by omega
  subst h7; rfl
 ·by_cases h6 : n = 1
  ·subst h6; have : ¬ d = 1 := fun e => hn e.symm
   have e1 : ((1 : Int) == d) = false := by simpa using hn
   have e2 : (((1 : Int), d) == ((1, 1) : Int × Int)) = false := by simp [this]
   rw [e1, e2]
  ·have e1 : (n == d) = false := by simpa using hn
   have e2 : ((n, d) == ((1, 1) : Int × Int)) = false := by simp [h6]
   rw [e1, e2]
theorem pair_beq (a b : Int × Int) : ((a.1 == b.1) && (a.2 == b.2)) = (a == b) := by
 obtain ⟨a1, a2⟩ := a; obtain ⟨b1, b2⟩ := b; rfl
end Go.PV

/-
 Plain laws: maps of the interval.
 Conditions: none.
-/
set_option linter.all false
namespace Go.PV
section
variable {α β : Type}
theorem loop_tab {X Y : Type} {body : X → Option (X ⊕ Y)} (n : Nat) (S : List β → Nat → X) (f : Nat → β) (y : Y) (h1 : ∀ i, i < n → body (S (tab i f) i) = some (.inl (S (tab i f ++ [f i]) (i + 1)))) (h2 : body (S (tab n f) n) = some (.inr y)) : loopO body (S [] 0) = some y := by
 have := loop_idx (body := body) n (fun i => S (tab i f) i) y (fun i hi => by rw [h1 i hi, tab_succ]) h2
 rw [tab_zero] at this
 exact this
theorem tab_append_len (i : Nat) (f : Nat → β) (x : β) (h : i ≤ 1048576) : (tab i f).length + [x].length ≤ 1099511627776 := by rw [tab_len]; simp; omega
end
def isMapT (n : Nat) (p : Nat → Pt) : Prop := (∀ i, i < n → coord (p i).1 = true ∧ coord (p i).2 = true) ∧ (∀ i, 0 < i → i < n → less (p (i - 1)).1 (p i).1 = true) ∧ (p 0).1 = (0, 1) ∧ (p (n - 1)).1 = (1, 1)
theorem w64_pred {i : Nat} (h : 0 < i) (h2 : i < 4611686018427387904) : w64 ((i : Int) - 1) = ((i - 1 : Nat) : Int) := by rw [w64_id (by omega) (by omega)]; omega
theorem coord_tame {r : Rt} (h : coord r = true) : tame r := tame_of (coord_rat h)
theorem idxO_tab0 {α : Type} {n : Nat} {p : Nat → α} (h : 0 < n) : idxO (tab n p) 0 = some (p 0) := idxO_tab (n := n) (f := p) (i := 0) h
theorem spec_imGood_tab (n : Nat) (p : Nat → Pt) (h2 : 2 ≤ n) (hn : n ≤ 12) : ∃ c, spec_imGood (tab n p) = some c ∧ (c = true ↔ isMapT n p) := by
 obtain ⟨y, h3, h4⟩ := loop_run (body := spec_imGood_b1 (tab n p)) (fun x => ∃ i : Nat, x = (i : Int) ∧ i ≤ n ∧ (∀ j, j < i → coord (p j).1 = true ∧ coord (p j).2 = true) ∧ (∀ j, 0 < j → j < i → less (p (j - 1)).1 (p j).1 = true)) (fun x => n - x.toNat)
  (fun y => (y = .inl false ∧ ¬ isMapT n p) ∨ (y = .inr () ∧ (∀ j, j < n → coord (p j).1 = true ∧ coord (p j).2 = true) ∧ (∀ j, 0 < j → j < n → less (p (j - 1)).1 (p j).1 = true))) (fun x ⟨i, e, hi, hc, hl⟩ => by
   subst e
   by_cases hlt : i < n
   ·simp only [spec_imGood_b1, tab_len, idxO_tab hlt, show ((i : Int) < (n : Int)) from by omega, decide_true, if_true, Option.bind_some, spec_imCoord_eq]
    cases h5 : coord (p i).1
    ·right; exact ⟨.inl false, by simp, .inl ⟨rfl, fun h => by have := (h.1 i hlt).1; rw [h5] at this; cases this⟩⟩
    ·cases h6 : coord (p i).2
     ·right; exact ⟨.inl false, by simp, .inl ⟨rfl, fun h => by have := (h.1 i hlt).2; rw [h6] at this; cases this⟩⟩
     ·have hc' : ∀ j, j < i + 1 → coord (p j).1 = true ∧ coord (p j).2 = true := fun j hj => by
       by_cases hji : j < i
       ·exact hc j hji
       ·have : j = i := by omega
        subst this; exact ⟨h5, h6⟩
      by_cases hi0 : i = 0
      ·left
       subst hi0
       exact ⟨((1 : Nat) : Int), by simp [w64_id], ⟨1, rfl, by omega, hc', fun j h1 h2 => by omega⟩, by simp; omega⟩
      ·have hlt2 : i - 1 < n := by omega
       have hpos : ((i : Int) > 0) := by omega
       have ht1 := coord_tame (hc (i - 1) (by omega)).1
       simp only [hpos, decide_true, if_true, Bool.not_true, Bool.false_eq_true, if_false, w64_pred (show 0 < i by omega) (by omega), idxO_tab hlt2, Option.bind_some, spec_raCmp_eq _ _ ht1 (coord_tame h5), cmp_ge]
       cases h7 : less (p (i - 1)).1 (p i).1
       ·right; exact ⟨.inl false, by simp, .inl ⟨rfl, fun h => by have := h.2.1 i (by omega) hlt; rw [h7] at this; cases this⟩⟩
       ·left
        refine ⟨((i + 1 : Nat) : Int), by simp [w64_nat (show i < 9223372036854775807 by omega)], ⟨i + 1, rfl, hlt, hc', fun j h1 h2 => ?_⟩, by simp; omega⟩
        by_cases hji : j < i
        ·exact hl j h1 hji
        ·have : j = i := by omega
         subst this; exact h7
   ·have : i = n := by omega
    subst this
    right
    exact ⟨.inr (), by simp [spec_imGood_b1, tab_len], .inr ⟨rfl, hc, hl⟩⟩) 0 ⟨0, rfl, by omega, fun j h => by omega, fun j _ h => by omega⟩
 have hin : inB 2 12 ((tab n p).length : Int) = true := by rw [tab_len, inB_iff]; omega
 unfold spec_imGood
 rw [spec_l1In_eq, Option.bind_some, hin]
 rw [h3]
 rcases h4 with ⟨rfl, h4⟩ | ⟨rfl, h4, h5⟩
 ·exact ⟨false, by simp, by simp [h4]⟩
 ·have hc0 := (h4 0 (by omega)).1
  have hc1 := (h4 (n - 1) (by omega)).1
  have hw : w64 ((n : Int) - 1) = ((n - 1 : Nat) : Int) := w64_pred (by omega) (by omega)
  have t0 : tame (0, 1) := ⟨by decide, by decide, by decide, by decide⟩
  have t1 : tame (1, 1) := ⟨by decide, by decide, by decide, by decide⟩
  simp only [Bool.not_true, Bool.false_eq_true, if_false, Option.bind_some, Sum.elim_inr, spec_imGood_k1, idxO_tab0 (show 0 < n by omega), spec_raInt, tab_len, hw, idxO_tab (show n - 1 < n by omega), spec_raCmp_eq _ _ (coord_tame hc0) t0, spec_raCmp_eq _ _ (coord_tame hc1) t1, cmp_zero, zero_iff (coord_rat hc0), one_iff (coord_rat hc1)]
  refine ⟨((p 0).1 == (0, 1)) && ((p (n - 1)).1 == (1, 1)), ?_, ?_⟩
  ·cases ((p 0).1 == ((0, 1) : Rt)) <;> simp
  ·simp only [Bool.and_eq_true, beq_iff_eq]
   exact ⟨fun h => ⟨h4, h5, h.1, h.2⟩, fun h => ⟨h.2.2.1, h.2.2.2⟩⟩
theorem impl_isMap_1_eq (p : Pt) : impl_isMap_1 p = some (!(coord p.1 && coord p.2)) := by
 unfold impl_isMap_1
 simp only [impl_isCoord_eq, Option.bind_some]
 cases coord p.1 <;> cases coord p.2 <;> rfl
theorem impl_xsOf_tab (n : Nat) (p : Nat → Pt) (hn : n ≤ 1048576) : impl_xsOf (tab n p) = some (tab n fun i => (p i).1) := by
 have hx := loop_tab (body := impl_xsOf_b1 (tab n p)) n (fun l i => (l, (i : Int))) (fun i => (p i).1) (tab n fun i => (p i).1) (fun i hi => by
  simp only [impl_xsOf_b1, tab_len, idxO_tab hi, show ((i : Int) < (n : Int)) from by omega, decide_true, if_true, Option.bind_some, guardO_bind_pos (tab_append_len i (fun i => (p i).1) (p i).1 (by omega)), w64_nat (show i < 9223372036854775807 by omega)]
  rw [guardO_bind_pos (by simp; omega)]) (by simp [impl_xsOf_b1, tab_len])
 unfold impl_xsOf
 rw [show (0 : Int) = ((0 : Nat) : Int) from rfl, hx]; rfl
theorem impl_isRising_tab (n : Nat) (r : Nat → Rt) (hn : n ≤ 1048576) (h1 : 1 ≤ n) (hr : ∀ i, i < n → isRat (r i) = true) : ∃ c, impl_isRising (tab n r) = some c ∧ (c = true ↔ ∀ i, 0 < i → i < n → less (r (i - 1)) (r i) = true) := by
 obtain ⟨y, h3, h4⟩ := loop_run (body := impl_isRising_b1 (tab n r)) (fun x => ∃ i : Nat, x = (i : Int) ∧ 1 ≤ i ∧ i ≤ n ∧ (∀ j, 0 < j → j < i → less (r (j - 1)) (r j) = true)) (fun x => n - x.toNat)
  (fun y => (y = .inl false ∧ ¬ ∀ i, 0 < i → i < n → less (r (i - 1)) (r i) = true) ∨ (y = .inr () ∧ ∀ i, 0 < i → i < n → less (r (i - 1)) (r i) = true)) (fun x ⟨i, e, hi0, hi, hl⟩ => by
   subst e
   by_cases hlt : i < n
   ·simp only [impl_isRising_b1, tab_len, idxO_tab hlt, w64_pred (show 0 < i by omega) (by omega), idxO_tab (show i - 1 < n by omega), show ((i : Int) < (n : Int)) from by omega, decide_true, if_true, Option.bind_some, impl_less_eq _ _ (tame_of (hr (i - 1) (by omega))) (tame_of (hr i hlt))]
    cases h7 : less (r (i - 1)) (r i)
    ·right; exact ⟨.inl false, by simp, .inl ⟨rfl, fun h => by have := h i (by omega) hlt; rw [h7] at this; cases this⟩⟩
    ·left
     refine ⟨((i + 1 : Nat) : Int), by simp [w64_nat (show i < 9223372036854775807 by omega)], ⟨i + 1, rfl, by omega, hlt, fun j h1 h2 => ?_⟩, by simp; omega⟩
     by_cases hji : j < i
     ·exact hl j h1 hji
     ·have : j = i := by omega
      subst this; exact h7
   ·have : i = n := by omega
    subst this
    right
    exact ⟨.inr (), by simp [impl_isRising_b1, tab_len], .inr ⟨rfl, hl⟩⟩) 1 ⟨1, rfl, by omega, by omega, fun j _ h => by omega⟩
 unfold impl_isRising
 rw [h3]
 rcases h4 with ⟨rfl, h4⟩ | ⟨rfl, h4⟩
 ·exact ⟨false, by simp, by simp [h4]⟩
 ·exact ⟨true, by simp [impl_isRising_k1], fun _ => h4, fun _ => rfl⟩
theorem impl_isMap_tab (n : Nat) (p : Nat → Pt) (h2 : 2 ≤ n) (hn : n ≤ 12) : ∃ c, impl_isMap (tab n p) = some c ∧ (c = true ↔ isMapT n p) := by
 have hin : inB 2 12 ((tab n p).length : Int) = true := by rw [tab_len, inB_iff]; omega
 unfold impl_isMap
 rw [impl_within_eq, Option.bind_some, hin, slices_ContainsFunc_Limpl_Point_impl_Point_eq (tab n p) (fun x0 => impl_isMap_1 x0) _ impl_isMap_1_eq (by rw [tab_len]; omega)]
 simp only [Bool.not_true, Bool.false_eq_true, if_false, Option.bind_some]
 by_cases hc : ∀ i, i < n → coord (p i).1 = true ∧ coord (p i).2 = true
 ·have hany : ((tab n p).any fun q => !(coord q.1 && coord q.2)) = false := by
   rw [List.any_eq_false]
   intro q hq
   obtain ⟨i, hi, rfl⟩ := tab_mem.1 hq
   simp [(hc i hi).1, (hc i hi).2]
  obtain ⟨c, h3, h4⟩ := impl_isRising_tab n (fun i => (p i).1) (by omega) (by omega) (fun i hi => coord_rat (hc i hi).1)
  have hw : w64 ((n : Int) - 1) = ((n - 1 : Nat) : Int) := w64_pred (by omega) (by omega)
  simp only [hany, Bool.false_eq_true, if_false, idxO_tab0 (show 0 < n by omega), impl_zero, impl_oneRat, Option.bind_some, tab_len, hw, idxO_tab (show n - 1 < n by omega), impl_xsOf_tab n p (by omega), h3, pair_beq (p 0).1 (0, 1), pair_beq (p (n - 1)).1 (1, 1)]
  refine ⟨((p 0).1 == (0, 1)) && (((p (n - 1)).1 == (1, 1)) && c), ?_, ?_⟩
  ·cases ((p 0).1 == ((0, 1) : Rt)) <;> cases ((p (n - 1)).1 == ((1, 1) : Rt)) <;> simp
  ·simp only [Bool.and_eq_true, beq_iff_eq, h4]
   exact ⟨fun h => ⟨hc, h.2.2, h.1, h.2.1⟩, fun h => ⟨h.2.2.1, h.2.2.2, h.2.1⟩⟩
 ·have hany : ((tab n p).any fun q => !(coord q.1 && coord q.2)) = true := by
   refine Classical.byContradiction fun hno => hc fun i hi => ?_
   have : ((tab n p).any fun q => !(coord q.1 && coord q.2)) = false := by simpa using hno
   have := List.any_eq_false.1 this (p i) (tab_mem.2 ⟨i, hi, rfl⟩)
   simpa using this
  exact ⟨false, by rw [hany]; rfl, ⟨fun h => (by cases h), fun h => absurd h.1 hc⟩⟩
theorem both_isMap (f : List Pt) (hl : f.length ≤ 4611686018427387904) : ∃ c, spec_imGood f = some c ∧ impl_isMap f = some c ∧ (c = true → ∃ n p, f = tab n p ∧ 2 ≤ n ∧ n ≤ 12 ∧ isMapT n p) := by
 cases h : inB 2 12 (f.length : Int)
 ·exact ⟨false, by simp [spec_imGood, spec_l1In_eq, h], by simp [impl_isMap, impl_within_eq, h], by simp⟩
 ·have hb := inB_iff.1 h
  have e : f = tab f.length (fun i => f.getD i ((0, 0), (0, 0))) := tab_eta f
  obtain ⟨c, h1, h2⟩ := spec_imGood_tab f.length (fun i => f.getD i ((0, 0), (0, 0))) (by omega) (by omega)
  obtain ⟨d, h3, h4⟩ := impl_isMap_tab f.length (fun i => f.getD i ((0, 0), (0, 0))) (by omega) (by omega)
  rw [← e] at h1 h3
  have hcd : d = c := by
   have h5 : d = true ↔ c = true := h4.trans h2.symm
   cases c <;> cases d
   ·rfl
   ·have := h5.1 rfl; cases this
   ·have := h5.2 rfl; cases this
   ·rfl
  subst hcd
  exact ⟨d, h1, h3, fun hd => ⟨f.length, _, e, by omega, by omega, h2.1 hd⟩⟩
end Go.PV

/-
 Plain laws: the variation of a map.
 Conditions: none.
-/
set_option linter.all false
namespace Go.PV
def sumD (r : Nat → Rt) : Nat → Option Rt
 | 0 => some (0, 1)
 | k + 1 => (sumD r k).bind fun s => (distQ (r k) (r (k + 1))).bind fun d => addQ s d
end Go.PV

/-
 Plain laws: slopes and laps of a map.
 Conditions: none.
-/
set_option linter.all false
namespace Go.PV
structure LowOk (n d : Int) (r : Rt) : Prop where
 eq : lowQ n d = some r
 rat : isRat r = true
 num : r.1.natAbs ≤ n.natAbs
 den : 1 ≤ r.2 ∧ r.2 ≤ d
 pos : 0 < n → 0 < r.1
 neg : n < 0 → r.1 < 0
 zer : n = 0 → r.1 = 0
theorem lowQ_some_nonneg {n d : Int} (h1 : 0 ≤ n) (h2 : n ≤ 1000000000) (h3 : 1 ≤ d) (h4 : d ≤ 1000000000) : ∃ r, LowOk n d r := by
 have hg : 0 < Int.gcd n d := Int.gcd_pos_of_ne_zero_right _ (by omega)
 have hdn : ¬ d < 0 := by omega
 have hr := lowest_isRat h1 h2 h3 h4
 have e : lowest n d = if isRat (Int.tdiv n (Int.gcd n d : Int), Int.tdiv d (Int.gcd n d : Int)) = true then ((Int.tdiv n (Int.gcd n d : Int), Int.tdiv d (Int.gcd n d : Int)), true) else ((0, 0), false) := by
  unfold lowest; simp only [if_neg hdn]
 have hrat : isRat (Int.tdiv n (Int.gcd n d : Int), Int.tdiv d (Int.gcd n d : Int)) = true := by
  refine Classical.byContradiction fun hno => ?_
  rw [e, if_neg hno] at hr
  exact absurd hr (by decide)
 rw [if_pos hrat] at e
 have e1 : Int.tdiv n (Int.gcd n d : Int) = n / (Int.gcd n d : Int) := Int.tdiv_eq_ediv_of_nonneg h1
 have e2 : Int.tdiv d (Int.gcd n d : Int) = d / (Int.gcd n d : Int) := Int.tdiv_eq_ediv_of_nonneg (by omega)
 have hgn : 0 < n → (Int.gcd n d : Int) ≤ n := fun h => by
  have := Nat.gcd_le_left d.natAbs (show 0 < n.natAbs by omega)
  have e : Int.gcd n d = Nat.gcd n.natAbs d.natAbs := rfl
  omega
 refine ⟨_, ⟨by unfold lowQ; rw [e]; rfl, hrat, ?_, ⟨(isRat_iff.1 hrat).1, ?_⟩, fun h => ?_, fun h => by omega, fun h => by subst h; simp⟩⟩
 ·exact tdiv_bound _ _
 ·show Int.tdiv d _ ≤ d
  have := tdiv_bound d (Int.gcd n d : Int)
  have h5 := (isRat_iff.1 hrat).1
  simp only at h5
  omega
 ·show 0 < Int.tdiv n _
  rw [e1]
  exact Int.ediv_pos_of_pos_of_dvd h (by omega) (Int.gcd_dvd_left ..)
theorem lowQ_some {n d : Int} (h1 : -1000000000 ≤ n) (h2 : n ≤ 1000000000) (h3 : 1 ≤ d) (h4 : d ≤ 1000000000) : ∃ r, LowOk n d r := by
 by_cases hn : 0 ≤ n
 ·exact lowQ_some_nonneg hn h2 h3 h4
 ·obtain ⟨r, h⟩ := lowQ_some_nonneg (n := -n) (d := d) (by omega) (by omega) h3 h4
  have e := lowQ_neg (n := -n) (d := d) (by omega)
  rw [Int.neg_neg, h.eq] at e
  have hr := isRat_neg h.rat
  have := h.pos (by omega)
  have := h.num
  exact ⟨(-r.1, r.2), ⟨e, by rw [Int.zero_sub] at hr; exact hr, by show (-r.1).natAbs ≤ _; omega, h.den, fun h => by omega, fun h => by show -r.1 < 0; omega, fun h => by omega⟩⟩
theorem coord_bd {r : Rt} (h : coord r = true) : 0 ≤ r.1 ∧ r.1 ≤ r.2 ∧ 1 ≤ r.2 ∧ r.2 ≤ 100 := by
 simp only [coord, isUnit, Bool.and_eq_true, inB_iff, decide_eq_true_eq] at h
 have := isRat_iff.1 h.1.1
 omega
theorem mul_bd {a b A B : Int} (h1 : -A ≤ a) (h2 : a ≤ A) (h3 : -B ≤ b) (h4 : b ≤ B) (hA : 0 ≤ A) (hB : 0 ≤ B) : -(A * B) ≤ a * b ∧ a * b ≤ A * B := by
 have h5 : (a * b).natAbs ≤ A.natAbs * B.natAbs := by rw [Int.natAbs_mul]; exact Nat.mul_le_mul (by omega) (by omega)
 have h6 : ((A.natAbs * B.natAbs : Nat) : Int) = A * B := by rw [Int.natCast_mul]; rw [Int.natAbs_of_nonneg hA, Int.natAbs_of_nonneg hB]
 omega
def small (r : Rt) : Prop := isRat r = true ∧ -500 ≤ r.1 ∧ r.1 ≤ 500 ∧ 1 ≤ r.2 ∧ r.2 ≤ 100
theorem small_coord {r : Rt} (h : coord r = true) : small r := by
 have := coord_bd h
 exact ⟨coord_rat h, by omega, by omega, by omega, by omega⟩
theorem sub_small {a b : Rt} (ha : small a) (hb : small b) : ∃ r, LowOk (a.1 * b.2 - b.1 * a.2) (a.2 * b.2) r ∧ subQ a b = some r ∧ r.1.natAbs ≤ 100000 ∧ r.2 ≤ 10000 := by
 obtain ⟨_, a1, a2, a3, a4⟩ := ha
 obtain ⟨_, b1, b2, b3, b4⟩ := hb
 have m1 := mul_bd (a := a.1) (b := b.2) (A := 500) (B := 100) (by omega) (by omega) (by omega) (by omega) (by omega) (by omega)
 have m2 := mul_bd (a := b.1) (b := a.2) (A := 500) (B := 100) (by omega) (by omega) (by omega) (by omega) (by omega) (by omega)
 have m3 := mul_bd (a := a.2) (b := b.2) (A := 100) (B := 100) (by omega) (by omega) (by omega) (by omega) (by omega) (by omega)
 have p3 : 0 < a.2 * b.2 := Int.mul_pos (by omega) (by omega)
 obtain ⟨r, hr⟩ := lowQ_some (n := a.1 * b.2 - b.1 * a.2) (d := a.2 * b.2) (by omega) (by omega) (by omega) (by omega)
 have h5 := hr.num
 have h6 := hr.den
 exact ⟨r, hr, hr.eq, by omega, by omega⟩
def slopeQ (p q : Pt) : Rt := (((subQ q.2 p.2).bind fun u => (subQ q.1 p.1).bind fun v => divQ u v)).getD (0, 0)
structure SlopeOk (p q : Pt) (u v : Rt) : Prop where
 up : subQ q.2 p.2 = some u
 far : subQ q.1 p.1 = some v
 ru : isRat u = true
 rv : isRat v = true
 div : divQ u v = some (slopeQ p q)
 rs : isRat (slopeQ p q) = true
 ub : u.1.natAbs ≤ 100000 ∧ u.2 ≤ 10000
 vb : v.1.natAbs ≤ 10000 ∧ v.2 ≤ 10000
 vp : 0 < v.1
 sg : (0 < (slopeQ p q).1 ↔ 0 < u.1) ∧ ((slopeQ p q).1 < 0 ↔ u.1 < 0)
theorem slope_ok {p q : Pt} (hp1 : coord p.1 = true) (hp2 : small p.2) (hq1 : coord q.1 = true) (hq2 : small q.2) (hl : less p.1 q.1 = true) : ∃ u v, SlopeOk p q u v := by
 obtain ⟨u, hu, e1, u1, u2⟩ := sub_small hq2 hp2
 obtain ⟨v, hv, e2, v1', v2⟩ := sub_small (small_coord hq1) (small_coord hp1)
 have v1 : v.1.natAbs ≤ 10000 := by
  have h1 := hv.num
  obtain ⟨a1, a2, a3, a4⟩ := coord_bd hq1
  obtain ⟨b1, b2, b3, b4⟩ := coord_bd hp1
  have m1 := mul_bd (a := q.1.1) (b := p.1.2) (A := 100) (B := 100) (by omega) (by omega) (by omega) (by omega) (by omega) (by omega)
  have m2 := mul_bd (a := p.1.1) (b := q.1.2) (A := 100) (B := 100) (by omega) (by omega) (by omega) (by omega) (by omega) (by omega)
  have p1 : 0 ≤ q.1.1 * p.1.2 := Int.mul_nonneg a1 (by omega)
  have p2 : 0 ≤ p.1.1 * q.1.2 := Int.mul_nonneg b1 (by omega)
  omega
 have hlt : p.1.1 * q.1.2 < q.1.1 * p.1.2 := by simpa [less] using hl
 have hvp := hv.pos (by omega)
 have hud := hu.den
 have hvd := hv.den
 have m1 := mul_bd (a := u.1) (b := v.2) (A := 100000) (B := 10000) (by omega) (by omega) (by omega) (by omega) (by omega) (by omega)
 have m2 := mul_bd (a := u.2) (b := v.1) (A := 10000) (B := 10000) (by omega) (by omega) (by omega) (by omega) (by omega) (by omega)
 have m3 : 0 < u.2 * v.1 := Int.mul_pos (by omega) hvp
 obtain ⟨s, hs⟩ := lowQ_some (n := u.1 * v.2) (d := u.2 * v.1) (by omega) (by omega) (by omega) (by omega)
 have e3 : divQ u v = some s := by unfold divQ; rw [if_neg (by omega)]; exact hs.eq
 have e4 : slopeQ p q = s := by unfold slopeQ; rw [e1, e2]; simp [e3]
 refine ⟨u, v, ⟨e1, e2, hu.rat, hv.rat, by rw [e4]; exact e3, by rw [e4]; exact hs.rat, ⟨u1, u2⟩, ⟨v1, v2⟩, hvp, ?_⟩⟩
 rw [e4]
 have hv2 : 0 < v.2 := by omega
 rcases Int.lt_trichotomy u.1 0 with h | h | h
 ·have h1 : u.1 * v.2 < 0 := Int.mul_neg_of_neg_of_pos h hv2
  have := hs.neg h1
  constructor <;> constructor <;> omega
 ·have h1 : u.1 * v.2 = 0 := by rw [h, Int.zero_mul]
  have := hs.zer h1
  constructor <;> constructor <;> omega
 ·have h1 : 0 < u.1 * v.2 := Int.mul_pos h hv2
  have := hs.pos h1
  constructor <;> constructor <;> omega
theorem impl_slope_eq {p q : Pt} {u v : Rt} (hp1 : coord p.1 = true) (hp2 : small p.2) (hq1 : coord q.1 = true) (hq2 : small q.2) (h : SlopeOk p q u v) (bad : Bool) : impl_calc_slope bad p q = some (slopeQ p q, bad) := by
 unfold impl_calc_slope
 rw [impl_sub_eq bad hq2.1 hp2.1, Option.bind_some, h.up]
 simp only [cK]
 rw [impl_sub_eq bad (coord_rat hq1) (coord_rat hp1), Option.bind_some, h.far]
 simp only [cK]
 rw [impl_div_eq bad h.ru h.rv, Option.bind_some, h.div]
 rfl
theorem spec_imSlope_eq {p q : Pt} {u v : Rt} (hp1 : coord p.1 = true) (hp2 : small p.2) (hq1 : coord q.1 = true) (hq2 : small q.2) (h : SlopeOk p q u v) : spec_imSlope p q = some (slopeQ p q) := by
 unfold spec_imSlope
 rw [spec_raSub_eq hq2.1 hp2.1, Option.bind_some, h.up]
 simp only [unO]
 rw [spec_raSub_eq (coord_rat hq1) (coord_rat hp1), Option.bind_some, h.far]
 simp only [unO]
 rw [spec_raDiv_eq h.ru h.rv, Option.bind_some, h.div]
 rfl
section
variable {n : Nat} {p : Nat → Pt}
theorem piece_ok (h : isMapT n p) {i : Nat} (hi : i + 1 < n) : ∃ u v, SlopeOk (p i) (p (i + 1)) u v :=
 slope_ok (h.1 i (by omega)).1 (small_coord (h.1 i (by omega)).2) (h.1 (i + 1) hi).1 (small_coord (h.1 (i + 1) hi).2) (h.2.1 (i + 1) (by omega) hi)
def slopesT (n : Nat) (p : Nat → Pt) : List Rt := tab (n - 1) fun i => slopeQ (p i) (p (i + 1))
theorem impl_slopes_tab (h : isMapT n p) (h2 : 2 ≤ n) (hn : n ≤ 12) : impl_slopes (tab n p) = some (slopesT n p) := by
 have hx := loop_tab (body := impl_slopes_b1 (tab n p)) (n - 1) (fun l i => (false, l, ((i + 1 : Nat) : Int))) (fun i => slopeQ (p i) (p (i + 1))) (slopesT n p) (fun i hi => by
  obtain ⟨u, v, hs⟩ := piece_ok h (i := i) (by omega)
  have a := h.1 i (by omega)
  have b := h.1 (i + 1) (by omega)
  simp only [impl_slopes_b1, tab_len, w64_pred (show 0 < i + 1 by omega) (by omega), Nat.add_sub_cancel, idxO_tab (show i < n by omega), idxO_tab (show i + 1 < n by omega), show (((i + 1 : Nat) : Int) < (n : Int)) from by omega, decide_true, if_true, Option.bind_some, impl_slope_eq a.1 (small_coord a.2) b.1 (small_coord b.2) hs false, w64_nat (show i + 1 < 9223372036854775807 by omega)]
  rw [guardO_bind_pos (by simp; omega)]) (by
  simp only [impl_slopes_b1, tab_len, show ¬ (((n - 1 + 1 : Nat) : Int) < (n : Int)) from by omega, decide_false, Bool.false_eq_true, if_false]
  rfl)
 unfold impl_slopes
 rw [show (1 : Int) = ((0 + 1 : Nat) : Int) from rfl, hx]; rfl
theorem spec_imSlopes_tab (h : isMapT n p) (h2 : 2 ≤ n) (hn : n ≤ 12) : spec_imSlopes (tab n p) = some (slopesT n p) := by
 have hx := loop_tab (body := spec_imSlopes_b1 (tab n p)) (n - 1) (fun l i => (l, ((i + 1 : Nat) : Int))) (fun i => slopeQ (p i) (p (i + 1))) (slopesT n p) (fun i hi => by
  obtain ⟨u, v, hs⟩ := piece_ok h (i := i) (by omega)
  have a := h.1 i (by omega)
  have b := h.1 (i + 1) (by omega)
  simp only [spec_imSlopes_b1, tab_len, w64_pred (show 0 < i + 1 by omega) (by omega), Nat.add_sub_cancel, idxO_tab (show i < n by omega), idxO_tab (show i + 1 < n by omega), show (((i + 1 : Nat) : Int) < (n : Int)) from by omega, decide_true, if_true, Option.bind_some, spec_imSlope_eq a.1 (small_coord a.2) b.1 (small_coord b.2) hs, w64_nat (show i + 1 < 9223372036854775807 by omega)]
  rw [guardO_bind_pos (by simp; omega)]) (by
  simp only [spec_imSlopes_b1, tab_len, show ¬ (((n - 1 + 1 : Nat) : Int) < (n : Int)) from by omega, decide_false, Bool.false_eq_true, if_false]
  rfl)
 unfold spec_imSlopes
 rw [show (1 : Int) = ((0 + 1 : Nat) : Int) from rfl, hx]; rfl
def strictB (n : Nat) (p : Nat → Pt) : Bool := (slopesT n p).all fun s => !(s.1 == 0)
theorem spec_lpStrict_tab (h : isMapT n p) (h2 : 2 ≤ n) (hn : n ≤ 12) : spec_lpStrict (tab n p) = some (strictB n p) := by
 have hl : (slopesT n p).length = n - 1 := tab_len _ _
 have hx := loop_any (xs := slopesT n p) (body := spec_lpStrict_b1 (slopesT n p)) (fun s => s.1 == 0) (fun i => (i : Int)) (.inl false) (.inr ()) (fun i x hx => by
  have hi := getElem?_lt hx
  simp only [spec_lpStrict_b1, idxO_nat, hx, Option.bind_some, show ((i : Int) < ((slopesT n p).length : Int)) from by omega, decide_true, if_true, w64_nat (show i < 9223372036854775807 by omega)]
  cases x.1 == 0 <;> rfl) (by simp [spec_lpStrict_b1])
 unfold spec_lpStrict strictB
 rw [spec_imSlopes_tab h h2 hn, Option.bind_some, show (0 : Int) = ((0 : Nat) : Int) from rfl, hx, List.any_eq_not_all_not]
 simp only [Int.natCast_zero]
 cases (slopesT n p).all fun s => !(s.1 == 0) <;> simp [spec_lpStrict_k1]
theorem contains_Rat (xs : List Rt) (f : Rt → Option Bool) (q : Rt → Bool) (hf : ∀ x, f x = some (q x)) (hl : xs.length ≤ 4611686018427387904) : slices_ContainsFunc_Limpl_Rat_impl_Rat xs f = some (xs.any q) := by
 have h := loop_first (xs := xs) (body := slices_IndexFunc_Limpl_Rat_impl_Rat_b1 xs f) q (fun i => (i : Int)) (fun i => .inl (i : Int)) (.inr ()) (fun i x hx => by
  have hi := getElem?_lt hx
  simp only [slices_IndexFunc_Limpl_Rat_impl_Rat_b1, idxO_nat, hx, hf x, Option.bind_some, w64_nat (show i < 9223372036854775807 by omega), show ((i : Int) < (xs.length : Int)) from by omega, decide_true, if_true]
  cases q x <;> rfl) (by simp [slices_IndexFunc_Limpl_Rat_impl_Rat_b1])
 unfold slices_ContainsFunc_Limpl_Rat_impl_Rat slices_IndexFunc_Limpl_Rat_impl_Rat
 rw [show (0 : Int) = ((0 : Nat) : Int) from rfl, h]
 cases hx : xs.findIdx? q with
 | none =>
  have hn := List.findIdx?_eq_none_iff.1 hx
  have : xs.any q = false := by simpa using hn
  simp [this, slices_IndexFunc_Limpl_Rat_impl_Rat_k1]
 | some m =>
  obtain ⟨hm, hp, _⟩ := List.findIdx?_eq_some_iff_getElem.1 hx
  have : xs.any q = true := by simp; exact ⟨xs[m].1, xs[m].2, List.getElem_mem hm, hp⟩
  simp [this]
end
theorem both_strict (f : List Pt) (hl : f.length ≤ 4611686018427387904) : ∃ c b, spec_imGood f = some c ∧ impl_isMap f = some c ∧ impl_isStrict f = some (c && b) ∧
  (c = true → spec_lpStrict f = some b ∧ ∃ n p, f = tab n p ∧ 2 ≤ n ∧ n ≤ 12 ∧ isMapT n p ∧ b = strictB n p) := by
 obtain ⟨c, h1, h2, h3⟩ := both_isMap f hl
 cases c
 ·exact ⟨false, false, h1, h2, by simp [impl_isStrict, impl_isLapMap, h2], by simp⟩
 ·obtain ⟨n, p, rfl, h4, h5, hm⟩ := h3 rfl
  refine ⟨true, strictB n p, h1, h2, ?_, fun _ => ⟨spec_lpStrict_tab hm h4 h5, n, p, rfl, h4, h5, hm, rfl⟩⟩
  unfold impl_isStrict impl_isLapMap
  rw [h2]
  simp only [Option.bind_some, if_true, impl_slopes_tab hm h4 h5, contains_Rat (slopesT n p) (fun x0 => impl_isLapMap_1 x0) (fun s => s.1 == 0) (fun x => rfl) (by unfold slopesT; rw [tab_len]; omega), strictB, Bool.true_and, List.any_eq_not_all_not, Bool.not_not]
end Go.PV

/-
 Plain laws: values of maps and lifts.
 Conditions: none.
-/
set_option linter.all false
namespace Go.PV
structure Curve (n : Nat) (p : Nat → Pt) : Prop where
 lo : 2 ≤ n
 hi : n ≤ 12
 x : ∀ i, i < n → coord (p i).1 = true
 y : ∀ i, i < n → small (p i).2
 up : ∀ i, 0 < i → i < n → less (p (i - 1)).1 (p i).1 = true
 fst : (p 0).1 = (0, 1)
 lst : (p (n - 1)).1 = (1, 1)
theorem Curve.of_map {n : Nat} {p : Nat → Pt} (h : isMapT n p) (h2 : 2 ≤ n) (hn : n ≤ 12) : Curve n p :=
 ⟨h2, hn, fun i hi => (h.1 i hi).1, fun i hi => small_coord (h.1 i hi).2, h.2.1, h.2.2.1, h.2.2.2⟩
def CR (bad : Bool) (o : Option Rt) (v : Rt × Bool) : Prop := isRat v.1 = true ∧ match o with
 | some r => v = (r, bad)
 | none => v.2 = true
theorem CR_cK {bad : Bool} {o : Option Rt} (h : ∀ r, o = some r → isRat r = true) : CR bad o (cK bad o) := by
 refine ⟨cK_rat h, ?_⟩
 cases o <;> rfl
theorem CR_bad {o : Option Rt} {v : Rt × Bool} (h : CR true o v) : v.2 = true := by
 obtain ⟨_, h⟩ := h
 cases o with
 | some r => rw [h]
 | none => exact h
theorem CR_bind {bad : Bool} {o : Option Rt} {v v' : Rt × Bool} {g : Rt → Option Rt} (h : CR bad o v) (h' : CR v.2 (g v.1) v') : CR bad (o.bind g) v' := by
 obtain ⟨h1, h2⟩ := h
 refine ⟨h'.1, ?_⟩
 cases o with
 | some r =>
  simp only at h2
  subst h2
  exact h'.2
 | none =>
  simp only at h2
  simp only [Option.bind_none]
  have := h'
  rw [h2] at this
  exact CR_bad this
section
variable {n : Nat} {p : Nat → Pt}
theorem Curve.piece (h : Curve n p) {i : Nat} (hi : i + 1 < n) : ∃ u v, SlopeOk (p i) (p (i + 1)) u v :=
 slope_ok (h.x i (by omega)) (h.y i (by omega)) (h.x (i + 1) hi) (h.y (i + 1) hi) (h.up (i + 1) (by omega) hi)
structure AtJ (n : Nat) (p : Nat → Pt) (x : Rt) (j : Nat) : Prop where
 lt : j < n
 bef : ∀ k, k < j → less (p k).1 x = true
 at' : less (p j).1 x = false
theorem findJ (h : Curve n p) {x : Rt} (hx : isUnit x = true) : ∃ j, AtJ n p x j := by
  have hr : isRat x = true := by simp only [isUnit, Bool.and_eq_true] at hx; exact hx.1
  have hle : less (p (n - 1)).1 x = false := by
    rw [h.lst]
    simp only [isUnit, Bool.and_eq_true, inB_iff] at hx
    have := isRat_iff.1 hr
    simp only [less, decide_eq_false_iff_not]
    omega
  have : ∀ k, k < n → (∃ j, AtJ n p x j) ∨ ∀ i, i ≤ k → less (p i).1 x = true := by
    intro k
    induction k with
    | zero =>
      intro hk
      cases h0 : less (p 0).1 x
      · exact .inl ⟨0, hk, fun k hk => by omega, h0⟩
      · exact .inr fun i hi => by have : i = 0 := by omega
                                  subst this; exact h0
    | succ k ih =>
      intro hk
      rcases ih (by omega) with h1 | h1
      · exact .inl h1
      · cases h0 : less (p (k + 1)).1 x
        · exact .inl ⟨k + 1, hk, fun i hi => h1 i (by omega), h0⟩
        · refine .inr fun i hi => ?_
          by_cases hik : i ≤ k
          · exact h1 i hik
          · have : i = k + 1 := by omega
            subst this; exact h0
  have h2 := h.lo
  rcases this (n - 1) (by omega) with h1 | h1
  · exact h1
  · have := h1 (n - 1) (Nat.le_refl _)
    rw [hle] at this; cases this
theorem AtJ.uniq {x : Rt} {j k : Nat} (h : AtJ n p x j) (h' : AtJ n p x k) : j = k := by
 rcases Nat.lt_trichotomy j k with h1 | h1 | h1
 ·have := h'.bef j h1; rw [h.at'] at this; cases this
 ·exact h1
 ·have := h.bef k h1; rw [h'.at'] at this; cases this
theorem index_Pt (f : Pt → Option Bool) (q : Nat → Bool) (hf : ∀ i, i < n → f (p i) = some (q i)) (j : Nat) (hj : j < n) (hn : n ≤ 1048576) (h1 : ∀ k, k < j → q k = false) (h2 : q j = true) : slices_IndexFunc_Limpl_Point_impl_Point (tab n p) f = some (j : Int) := by
 have hx := loop_idx (body := slices_IndexFunc_Limpl_Point_impl_Point_b1 (tab n p) f) j (fun i => (i : Int)) (.inl (j : Int)) (fun i hi => by
  simp only [slices_IndexFunc_Limpl_Point_impl_Point_b1, tab_len, idxO_tab (show i < n by omega), hf i (by omega), h1 i hi, Option.bind_some, show ((i : Int) < (n : Int)) from by omega, decide_true, if_true, w64_nat (show i < 9223372036854775807 by omega)]
  simp) (by
  simp only [slices_IndexFunc_Limpl_Point_impl_Point_b1, tab_len, idxO_tab hj, hf j hj, h2, Option.bind_some, show ((j : Int) < (n : Int)) from by omega, decide_true, if_true])
 unfold slices_IndexFunc_Limpl_Point_impl_Point
 rw [show (0 : Int) = ((0 : Nat) : Int) from rfl, hx]
 rfl
theorem impl_pieceAt_eq (h : Curve n p) {x : Rt} (hx : isRat x = true) {j : Nat} (hj : AtJ n p x j) : impl_pieceAt (tab n p) x = some ((j - 1 : Nat) : Int) := by
 have h1 := h.hi
 have hlt := hj.lt
 unfold impl_pieceAt
 rw [index_Pt (fun x0 => impl_pieceAt_1 x0 x) (fun i => !less (p i).1 x) (fun i hi => by simp [impl_pieceAt_1, impl_less_eq _ _ (coord_tame (h.x i hi)) (tame_of hx)]) j hlt (by omega) (fun k hk => by simp [hj.bef k hk]) (by simp [hj.at'])]
 rw [Option.bind_some, w64_id (by omega) (by omega)]
 congr 1
 split <;> omega
theorem spec_imPiece_eq (h : Curve n p) {x : Rt} (hx : isRat x = true) {j : Nat} (hj : AtJ n p x j) : spec_imPiece (tab n p) x = some ((j - 1 : Nat) : Int) := by
 have h1 := h.hi
 have h2 := h.lo
 have hlt := hj.lt
 have hx := loop_idx (body := spec_imPiece_b1 (tab n p) x) (j - 1) (fun i => (i : Int)) ((j - 1 : Nat) : Int) (fun i hi => by
  have e2 : w64 ((i : Int) + 2) = ((i + 2 : Nat) : Int) := by rw [w64_id (by omega) (by omega)]; omega
  simp only [spec_imPiece_b1, tab_len, e2, w64_nat (show i < 9223372036854775807 by omega), idxO_tab (show i + 1 < n by omega), Option.bind_some, spec_raCmp_eq _ _ (coord_tame (h.x (i + 1) (by omega))) (tame_of hx), show (((i + 2 : Nat) : Int) < (n : Int)) from by omega, decide_true, if_true]
  have : decide (cmp (p (i + 1)).1 x < 0) = true := by
   have := hj.bef (i + 1) (by omega)
   simp only [less, decide_eq_true_eq] at this
   simp [cmp, this]
  rw [this]; rfl) (by
  have e2 : w64 (((j - 1 : Nat) : Int) + 2) = ((j - 1 + 2 : Nat) : Int) := by rw [w64_id (by omega) (by omega)]; omega
  simp only [spec_imPiece_b1, tab_len, e2]
  by_cases hc : j - 1 + 2 < n
  ·simp only [show (((j - 1 + 2 : Nat) : Int) < (n : Int)) from by omega, decide_true, if_true, w64_nat (show j - 1 < 9223372036854775807 by omega), idxO_tab (show j - 1 + 1 < n by omega), Option.bind_some, spec_raCmp_eq _ _ (coord_tame (h.x (j - 1 + 1) (by omega))) (tame_of hx)]
   have hno : less (p (j - 1 + 1)).1 x = false := by
    by_cases hj0 : j = 0
    ·subst hj0
     -- x is not behind the first point, so not behind the second
     have h3 := hj.at'
     have h4 := h.up 1 (by omega) (by omega)
     rw [h.fst] at h3 h4
     obtain ⟨x1, x2, x3, x4, _⟩ := isRat_iff.1 hx
     have c := coord_bd (h.x 1 (by omega))
     simp only [less, decide_eq_false_iff_not, decide_eq_true_eq] at h3 h4 ⊢
     simp only [Nat.zero_sub, Nat.zero_add, Nat.sub_self] at h4 ⊢
     have p1 : 0 ≤ (p 1).1.1 * x.2 := Int.mul_nonneg c.1 (by omega)
     have p2 : x.1 * (p 1).1.2 ≤ 0 := Int.mul_nonpos_of_nonpos_of_nonneg (by omega) (by omega)
     omega
    ·rw [show j - 1 + 1 = j by omega]; exact hj.at'
   have : decide (cmp (p (j - 1 + 1)).1 x < 0) = false := by
    simp only [less, decide_eq_false_iff_not] at hno
    simp only [cmp, hno, if_false]
    split <;> rfl
   rw [this]; rfl
  ·simp only [show ¬ (((j - 1 + 2 : Nat) : Int) < (n : Int)) from by omega, decide_false, Bool.false_eq_true, if_false, Option.bind_some])
 unfold spec_imPiece
 rw [show (0 : Int) = ((0 : Nat) : Int) from rfl, hx]
 rfl
def onQ (p q : Pt) (x : Rt) : Option Rt := (subQ x p.1).bind fun far => (mulQ (slopeQ p q) far).bind fun up => addQ p.2 up
theorem mulQ_comm (a b : Rt) : mulQ a b = mulQ b a := by unfold mulQ; rw [Int.mul_comm, Int.mul_comm a.2]
theorem impl_line_eq {q : Pt} {s x : Rt} (hq1 : isRat q.1 = true) (hq2 : isRat q.2 = true) (hs : isRat s = true) (hx : isRat x = true) (bad : Bool) : ∃ v, impl_calc_line bad q s x = some v ∧ CR bad ((subQ x q.1).bind fun far => (mulQ s far).bind fun up => addQ q.2 up) v := by
 have c1 : CR bad (subQ x q.1) (cK bad (subQ x q.1)) := CR_cK fun _ => subQ_rat
 have c2 := CR_cK (bad := (cK bad (subQ x q.1)).2) (o := mulQ s (cK bad (subQ x q.1)).1) fun _ => mulQ_rat
 have c3 := CR_cK (bad := (cK (cK bad (subQ x q.1)).2 (mulQ s (cK bad (subQ x q.1)).1)).2) (o := addQ q.2 (cK (cK bad (subQ x q.1)).2 (mulQ s (cK bad (subQ x q.1)).1)).1) fun _ => addQ_rat
 refine ⟨_, ?_, CR_bind c1 (CR_bind (g := fun up => addQ q.2 up) c2 c3)⟩
 unfold impl_calc_line
 rw [impl_sub_eq bad hx hq1, Option.bind_some, impl_mul_eq _ hs c1.1, Option.bind_some, impl_add_eq _ hq2 c2.1]
 rfl
theorem impl_value_eq (h : Curve n p) {x : Rt} (hx : isRat x = true) {j : Nat} (hj : AtJ n p x j) (bad : Bool) : ∃ v, impl_calc_value bad (tab n p) x = some v ∧ CR bad (onQ (p (j - 1)) (p (j - 1 + 1)) x) v := by
 have h1 := h.hi
 have h2 := h.lo
 have hlt := hj.lt
 have hj1 : j - 1 + 1 < n := by omega
 obtain ⟨u, v, hs⟩ := h.piece hj1
 obtain ⟨w, e1, e2⟩ := impl_line_eq (q := p (j - 1)) (s := slopeQ (p (j - 1)) (p (j - 1 + 1))) (x := x) (coord_rat (h.x (j - 1) (by omega))) (h.y (j - 1) (by omega)).1 hs.rs hx bad
 refine ⟨w, ?_, e2⟩
 unfold impl_calc_value
 rw [impl_pieceAt_eq h hx hj]
 simp only [Option.bind_some, w64_nat (show j - 1 < 9223372036854775807 by omega), idxO_tab (show j - 1 < n by omega), idxO_tab hj1, impl_slope_eq (h.x (j - 1) (by omega)) (h.y (j - 1) (by omega)) (h.x (j - 1 + 1) hj1) (h.y (j - 1 + 1) hj1) hs bad, e1]
theorem spec_raMul_zero (s : Rt) : spec_raMul (0, 0) s = some ((0, 0), false) := by
 unfold spec_raMul spec_raMake
 have : w64 (0 * s.2) = 0 := by rw [Int.zero_mul]; rfl
 simp only [this]
 rfl
theorem spec_imAt_eq (h : Curve n p) {x : Rt} (hx : isRat x = true) {j : Nat} (hj : AtJ n p x j) : spec_imAt (tab n p) x = some (unO (onQ (p (j - 1)) (p (j - 1 + 1)) x)) := by
 have h1 := h.hi
 have h2 := h.lo
 have hlt := hj.lt
 have hj1 : j - 1 + 1 < n := by omega
 obtain ⟨u, v, hs⟩ := h.piece hj1
 have rx := coord_rat (h.x (j - 1) (by omega))
 unfold spec_imAt
 rw [spec_imPiece_eq h hx hj]
 simp only [Option.bind_some, w64_nat (show j - 1 < 9223372036854775807 by omega), idxO_tab (show j - 1 < n by omega), idxO_tab hj1, spec_imOn, spec_raSub_eq hx rx, spec_imSlope_eq (h.x (j - 1) (by omega)) (h.y (j - 1) (by omega)) (h.x (j - 1 + 1) hj1) (h.y (j - 1 + 1) hj1) hs, onQ]
 cases hsq : subQ x (p (j - 1)).1 with
 | none =>
  simp only [unO, spec_raMul_zero, Option.bind_some, Option.bind_none]
  rfl
 | some far =>
  have hf := subQ_rat hsq
  simp only [unO, spec_raMul_eq hf hs.rs, Option.bind_some, mulQ_comm far]
  cases hmq : mulQ (slopeQ (p (j - 1)) (p (j - 1 + 1))) far with
  | none => rfl
  | some up =>
   simp only [unO, Option.bind_some, spec_raAdd_eq (h.y (j - 1) (by omega)).1 (mulQ_rat hmq)]
   rfl
end
end Go.PV

/-
 Plain laws: values of lifts.
 Conditions: none.
-/
set_option linter.all false
namespace Go.PV
structure LiftT (n : Nat) (p : Nat → Pt) : Prop where
 cur : Curve n p
 mono : ∀ i, 0 < i → i < n → less (p i).2 (p (i - 1)).2 = false
 lstY : (p (n - 1)).2 = ((p 0).2.1 + (p 0).2.2, (p 0).2.2)
 by5 : ∀ i, i < n → -5 * (p i).2.2 ≤ (p i).2.1 ∧ (p i).2.1 ≤ 5 * (p i).2.2
def flr (x : Rt) : Int := floorDiv x.1 x.2
def part (x : Rt) : Rt := (x.1 - flr x * x.2, x.2)
structure PartOk (x : Rt) : Prop where
 rat : isRat (part x) = true
 lo : 0 ≤ (part x).1
 hi : (part x).1 < (part x).2
 spec : spec_raFloor x = some (flr x)
 impl : impl_floor x = some (flr x)
 bd : flr x * x.2 ≤ x.1 ∧ x.1 < flr x * x.2 + x.2
section
variable {n : Nat} {p : Nat → Pt}
open Classical in
noncomputable def atQ (n : Nat) (p : Nat → Pt) (x : Rt) : Option Rt := if h : ∃ j, AtJ n p x j then onQ (p (Classical.choose h - 1)) (p (Classical.choose h - 1 + 1)) x else none
theorem atQ_eq {x : Rt} {j : Nat} (h : AtJ n p x j) : atQ n p x = onQ (p (j - 1)) (p (j - 1 + 1)) x := by
 have hx : ∃ j, AtJ n p x j := ⟨j, h⟩
 unfold atQ
 rw [dif_pos hx, AtJ.uniq (Classical.choose_spec hx) h]
theorem onQ_rat {q r : Pt} {x y : Rt} (h : onQ q r x = some y) : isRat y = true := by
 unfold onQ at h
 obtain ⟨a, _, h⟩ := Option.bind_eq_some_iff.1 h
 obtain ⟨b, _, h⟩ := Option.bind_eq_some_iff.1 h
 exact addQ_rat h
theorem atQ_rat {x y : Rt} (h : atQ n p x = some y) : isRat y = true := by
 unfold atQ at h
 split at h
 ·exact onQ_rat h
 ·cases h
theorem spec_at (h : Curve n p) {x : Rt} (hx : isUnit x = true) : spec_imAt (tab n p) x = some (unO (atQ n p x)) := by
 have hr : isRat x = true := by simp only [isUnit, Bool.and_eq_true] at hx; exact hx.1
 obtain ⟨j, hj⟩ := findJ h hx
 rw [spec_imAt_eq h hr hj, atQ_eq hj]
theorem impl_at (h : Curve n p) {x : Rt} (hx : isUnit x = true) (bad : Bool) : ∃ v, impl_calc_value bad (tab n p) x = some v ∧ CR bad (atQ n p x) v := by
 have hr : isRat x = true := by simp only [isUnit, Bool.and_eq_true] at hx; exact hx.1
 obtain ⟨j, hj⟩ := findJ h hx
 rw [atQ_eq hj]
 exact impl_value_eq h hr hj bad
noncomputable def liftQ (n : Nat) (p : Nat → Pt) (x : Rt) : Option Rt := (atQ n p (part x)).bind fun y => addQ y (flr x, 1)
end
end Go.PV

set_option linter.all false
namespace Go.PV
def minStep (a b : Int × Int) : Int × Int := if less b a = true then b else a
def maxStep (a b : Int × Int) : Int × Int := if less a b = true then b else a
def mnN (r : Nat → Int × Int) (i : Nat) : Int × Int := foldN i (fun s j => minStep s (r j)) (r 0)
def mxN (r : Nat → Int × Int) (i : Nat) : Int × Int := foldN i (fun s j => maxStep s (r j)) (r 0)
def ratN (G : Nat → Nat → Int) (v : Nat → Int) (n i : Nat) : Int × Int := (lowest (dotN (G i) v n) (v i)).1
section
variable {n : Nat} {G : Nat → Nat → Int} {v : Nat → Int}
end
def asked (g : List (List Int)) (u : List Int) : Bool := isGraph g && (isVec u && ((u.length : Int) == (g.length : Int)))
end Go.PV

set_option linter.all false
namespace Go.PV
end Go.PV

/-
 Plain laws: where a lift comes from.
 Conditions: none.
-/
set_option linter.all false
namespace Go.PV
theorem lowQ_eq {n d : Int} (hd : 0 < d) {r : Rt} (h : lowQ n d = some r) : r.1 * d = n * r.2 ∧ 1 ≤ r.2 := by
 have hr := lowQ_rat h
 have h2 := (isRat_iff.1 hr).1
 have hdn : ¬ d < 0 := by omega
 unfold lowQ lowest at h
 simp only [if_neg hdn] at h
 by_cases h3 : isRat (Int.tdiv n (Int.gcd n d : Int), Int.tdiv d (Int.gcd n d : Int)) = true
 ·rw [if_pos h3] at h
  simp only [if_true] at h
  obtain rfl := Option.some.inj h
  have a : (Int.gcd n d : Int) ∣ n := Int.gcd_dvd_left ..
  have b : (Int.gcd n d : Int) ∣ d := Int.gcd_dvd_right ..
  refine ⟨?_, h2⟩
  show Int.tdiv n (Int.gcd n d : Int) * d = n * Int.tdiv d (Int.gcd n d : Int)
  have e1 := Int.tdiv_mul_cancel a
  have e2 := Int.tdiv_mul_cancel b
  generalize Int.tdiv n (Int.gcd n d : Int) = u at *
  generalize Int.tdiv d (Int.gcd n d : Int) = v at *
  generalize (Int.gcd n d : Int) = g at *
  subst e1
  rw [← e2]
  grind
 ·rw [if_neg h3] at h; simp at h
theorem lt_le {a b c : Rt} (ha : isRat a = true) (hb : isRat b = true) (hc : isRat c = true) (h1 : less a b = true) (h2 : less c b = false) : less a c = true := by
 have a2 := (isRat_iff.1 ha).1
 have b2 := (isRat_iff.1 hb).1
 have c2 := (isRat_iff.1 hc).1
 simp only [less, decide_eq_true_eq, decide_eq_false_iff_not] at *
 have m1 := Int.mul_le_mul_of_nonneg_right (show b.1 * c.2 ≤ c.1 * b.2 by omega) (show 0 ≤ a.2 by omega)
 have m2 := Int.mul_lt_mul_of_pos_right h1 (show 0 < c.2 by omega)
 refine Classical.byContradiction fun h3 => ?_
 have m3 := Int.mul_le_mul_of_nonneg_right (show c.1 * a.2 ≤ a.1 * c.2 by omega) (show 0 ≤ b.2 by omega)
 grind
theorem le_le {a b c : Rt} (ha : isRat a = true) (hb : isRat b = true) (hc : isRat c = true) (h1 : less b a = false) (h2 : less c b = false) : less c a = false := by
 cases h : less c a
 ·rfl
 ·have := lt_le hc ha hb h h1
  rw [h2] at this; cases this
def turnK (y x : Rt) : Int := if less (part x) (part y) = true then flr x - flr y - 1 else flr x - flr y
section
variable {n : Nat} {p : Nat → Pt}
def backQ (q r : Pt) (z : Rt) : Option Rt := (subQ z q.2).bind fun u => (divQ u (slopeQ q r)).bind fun v => addQ q.1 v
theorem LiftT.le (h : LiftT n p) : ∀ {i j : Nat}, i ≤ j → j < n → less (p j).2 (p i).2 = false := by
 intro i j hij hj
 induction j with
 | zero =>
  have : i = 0 := by omega
  subst this; simp [less]
 | succ j ih =>
  by_cases he : i = j + 1
  ·subst he; simp [less]
  ·exact le_le (h.cur.y i (by omega)).1 (h.cur.y j (by omega)).1 (h.cur.y (j + 1) hj).1 (ih (by omega) (by omega)) (h.mono (j + 1) (by omega) hj)
structure UpJ (n : Nat) (p : Nat → Pt) (z : Rt) (j : Nat) : Prop where
 pos : 0 < j
 lt : j < n
 bef : ∀ k, k < j → less (p k).2 z = true
 at' : less (p j).2 z = false
structure FlatJ (n : Nat) (p : Nat → Pt) (j : Nat) : Prop where
 pos : 0 < j
 lt : j < n
 same : ∀ k, j < k → k < n → (p (k - 1)).2 = (p k).2
 step : (p (j - 1)).2 ≠ (p j).2
section
variable (h : Curve n p) {z : Rt} (hz : isRat z = true)
include h hz
end
end
end Go.PV

/-
 Plain laws: what fractions stand for.
 Conditions: none.
-/
set_option linter.all false
namespace Go.PV
def val (r : Rt) : Rat := (r.1 : Rat) / (r.2 : Rat)
theorem cast_pos {d : Int} (h : 0 < d) : (0 : Rat) < (d : Rat) := by exact_mod_cast h
theorem val_mul {r : Rt} (h : 0 < r.2) : val r * (r.2 : Rat) = (r.1 : Rat) := by
 have := cast_pos h
 unfold val
 have h2 : (r.2 : Rat) ≠ 0 := by intro h3; rw [h3] at this; exact absurd this (by decide)
 grind
theorem lt_iff {a b c d : Int} (hb : 0 < b) (hd : 0 < d) {x y : Rat} (hx : x * (b : Rat) = (a : Rat)) (hy : y * (d : Rat) = (c : Rat)) : a * d < c * b ↔ x < y := by
 have pb := cast_pos hb
 have pd := cast_pos hd
 have e : ((a * d : Int) : Rat) < ((c * b : Int) : Rat) ↔ a * d < c * b := by exact_mod_cast Iff.rfl
 rw [← e, Rat.intCast_mul, Rat.intCast_mul, ← hx, ← hy]
 constructor
 ·intro h
  refine Classical.byContradiction fun hno => ?_
  have h1 : y ≤ x := by grind
  have h2 := Rat.mul_le_mul_of_nonneg_left h1 (Rat.le_of_lt (Rat.mul_pos pb pd))
  grind
 ·intro h
  have h2 := Rat.mul_lt_mul_of_pos_left h (Rat.mul_pos pb pd)
  grind
theorem less_val {a b : Rt} (ha : 0 < a.2) (hb : 0 < b.2) : less a b = true ↔ val a < val b := by
 rw [← lt_iff ha hb (val_mul ha) (val_mul hb)]
 simp [less]
theorem less_val_no {a b : Rt} (ha : 0 < a.2) (hb : 0 < b.2) : less a b = false ↔ val b ≤ val a := by
 have := less_val ha hb
 cases h : less a b
 ·rw [h] at this
  have : ¬ val a < val b := fun h1 => by have := this.2 h1; cases this
  exact ⟨fun _ => by grind, fun _ => rfl⟩
 ·rw [h] at this
  have := this.1 rfl
  exact ⟨fun h => (by cases h), fun h => (by grind)⟩
theorem lowQ_val {n d : Int} (hd : 0 < d) {r : Rt} (h : lowQ n d = some r) : val r * (d : Rat) = (n : Rat) := by
 obtain ⟨e, hp⟩ := lowQ_eq hd h
 have h2 := val_mul (r := r) (by omega)
 have p2 := cast_pos (d := r.2) (by omega)
 have pd := cast_pos hd
 have e2 : (r.1 : Rat) * (d : Rat) = (n : Rat) * (r.2 : Rat) := by exact_mod_cast e
 have h3 : (r.2 : Rat) ≠ 0 := by intro h3; rw [h3] at p2; exact absurd p2 (by decide)
 rw [← h2] at e2
 grind
theorem ne0 {d : Int} (h : 0 < d) : (d : Rat) ≠ 0 := by
 have := cast_pos h
 intro h3; rw [h3] at this; exact absurd this (by decide)
section
variable {a b r : Rt} (ha : isRat a = true) (hb : isRat b = true)
include ha hb
theorem addQ_val (h : addQ a b = some r) : val r = val a + val b := by
 have a2 := (isRat_iff.1 ha).1
 have b2 := (isRat_iff.1 hb).1
 have e := lowQ_val (den_pos ha hb) h
 have e1 := val_mul (r := a) (by omega)
 have e2 := val_mul (r := b) (by omega)
 have n1 := ne0 (d := a.2) (by omega)
 have n2 := ne0 (d := b.2) (by omega)
 rw [Rat.intCast_add, Rat.intCast_mul, Rat.intCast_mul, Rat.intCast_mul, ← e1, ← e2] at e
 grind
theorem subQ_val (h : subQ a b = some r) : val r = val a - val b := by
 have a2 := (isRat_iff.1 ha).1
 have b2 := (isRat_iff.1 hb).1
 have e := lowQ_val (den_pos ha hb) h
 have e1 := val_mul (r := a) (by omega)
 have e2 := val_mul (r := b) (by omega)
 have n1 := ne0 (d := a.2) (by omega)
 have n2 := ne0 (d := b.2) (by omega)
 rw [Rat.intCast_sub, Rat.intCast_mul, Rat.intCast_mul, Rat.intCast_mul, ← e1, ← e2] at e
 grind
theorem mulQ_val (h : mulQ a b = some r) : val r = val a * val b := by
 have a2 := (isRat_iff.1 ha).1
 have b2 := (isRat_iff.1 hb).1
 have e := lowQ_val (den_pos ha hb) h
 have e1 := val_mul (r := a) (by omega)
 have e2 := val_mul (r := b) (by omega)
 have n1 := ne0 (d := a.2) (by omega)
 have n2 := ne0 (d := b.2) (by omega)
 rw [Rat.intCast_mul, Rat.intCast_mul, ← e1, ← e2] at e
 grind
theorem divQ_val (hp : 0 < b.1) (h : divQ a b = some r) : val r * val b = val a := by
 have a2 := (isRat_iff.1 ha).1
 have b2 := (isRat_iff.1 hb).1
 unfold divQ at h
 rw [if_neg (by omega)] at h
 have e := lowQ_val (Int.mul_pos (by omega) hp) h
 have e1 := val_mul (r := a) (by omega)
 have e2 := val_mul (r := b) (by omega)
 have n1 := ne0 (d := a.2) (by omega)
 have n2 := ne0 (d := b.2) (by omega)
 rw [Rat.intCast_mul, Rat.intCast_mul, ← e1, ← e2] at e
 grind
end
theorem unit_val {r : Rt} (hr : isRat r = true) : isUnit r = true ↔ (0 : Rat) ≤ val r ∧ val r ≤ 1 := by
 have r2 := (isRat_iff.1 hr).1
 have e := val_mul (r := r) (by omega)
 have p := cast_pos (d := r.2) (by omega)
 simp only [isUnit, Bool.and_eq_true, inB_iff, hr, true_and]
 have h1 := lt_iff (a := r.1) (b := r.2) (c := 0) (d := 1) (x := val r) (y := 0) (by omega) (by omega) e (by simp)
 have h2 := lt_iff (a := 1) (b := 1) (c := r.1) (d := r.2) (x := 1) (y := val r) (by omega) (by omega) (by simp) e
 constructor
 ·intro ⟨h3, h4⟩
  constructor
  ·refine Classical.byContradiction fun hno => ?_
   have := h1.2 (by grind)
   omega
  ·refine Classical.byContradiction fun hno => ?_
   have := h2.2 (by grind)
   omega
 ·intro ⟨h3, h4⟩
  constructor
  ·refine Classical.byContradiction fun hno => ?_
   have := h1.1 (by omega)
   grind
  ·refine Classical.byContradiction fun hno => ?_
   have := h2.1 (by omega)
   grind
end Go.PV

/-
 Plain laws: the laps of a map.
 Conditions: none.
-/
set_option linter.all false
namespace Go.PV
abbrev Trip := Nat × Nat × Int
def encT (t : Trip) : List Int := [(t.1 : Int), (t.2.1 : Int), t.2.2]
def lapStep (l : List Trip) (i : Nat) (s : Int) : List Trip := match l.getLast? with
 | some t => if t.2.2 = s then l.dropLast ++ [(t.1, i + 1, s)] else l ++ [(i, i + 1, s)]
 | none => l ++ [(i, i + 1, s)]
def lapsN (σ : Nat → Int) : Nat → List Trip
 | 0 => []
 | i + 1 => lapStep (lapsN σ i) i (σ i)
theorem lapStep_nil (i : Nat) (s : Int) : lapStep [] i s = [(i, i + 1, s)] := rfl
theorem lapStep_app (l : List Trip) (t : Trip) (i : Nat) (s : Int) : lapStep (l ++ [t]) i s = if t.2.2 = s then l ++ [(t.1, i + 1, s)] else l ++ [t] ++ [(i, i + 1, s)] := by
 unfold lapStep
 simp
theorem snoc_cases {α : Type} (l : List α) : l = [] ∨ ∃ l' x, l = l' ++ [x] := by
 rcases List.eq_nil_or_concat l with h | ⟨l', x, h⟩
 ·exact .inl h
 ·exact .inr ⟨l', x, by rw [h, List.concat_eq_append]⟩
structure LapInv (σ : Nat → Int) (i : Nat) : Prop where
 len : (lapsN σ i).length ≤ i
 ne : 0 < i → lapsN σ i ≠ []
 bd : ∀ t ∈ lapsN σ i, t.1 < t.2.1 ∧ t.2.1 ≤ i
theorem lap_inv (σ : Nat → Int) : ∀ i, LapInv σ i
 | 0 => ⟨by simp [lapsN], by omega, by simp [lapsN]⟩
 | i + 1 => by
  have ih := lap_inv σ i
  have hl := ih.len
  have hb := ih.bd
  rcases snoc_cases (lapsN σ i) with h | ⟨l, t, h⟩
  ·have e : lapsN σ (i + 1) = [(i, i + 1, σ i)] := by simp only [lapsN, h, lapStep_nil]
   exact ⟨by rw [e]; simp, fun _ => by rw [e]; simp, by rw [e]; simp⟩
  ·rw [h] at hl hb
   have e : lapsN σ (i + 1) = if t.2.2 = σ i then l ++ [(t.1, i + 1, σ i)] else l ++ [t] ++ [(i, i + 1, σ i)] := by simp only [lapsN, h, lapStep_app]
   have ht := hb t (by simp)
   have hbl : ∀ t' ∈ l, t'.1 < t'.2.1 ∧ t'.2.1 ≤ i + 1 := fun t' h' => by have := hb t' (by simp [h']); omega
   simp at hl
   by_cases hs : t.2.2 = σ i
   ·rw [if_pos hs] at e
    refine ⟨by rw [e]; simp; omega, fun _ => by rw [e]; simp, fun t' h' => ?_⟩
    rw [e] at h'
    rcases List.mem_append.1 h' with h' | h'
    ·exact hbl t' h'
    ·simp at h'; subst h'; exact ⟨by show t.1 < i + 1; omega, Nat.le_refl _⟩
   ·rw [if_neg hs] at e
    refine ⟨by rw [e]; simp; omega, fun _ => by rw [e]; simp, fun t' h' => ?_⟩
    rw [e] at h'
    rcases List.mem_append.1 h' with h' | h'
    ·rcases List.mem_append.1 h' with h' | h'
     ·exact hbl t' h'
     ·simp at h'; subst h'; omega
    ·simp at h'; subst h'; exact ⟨Nat.lt_succ_self i, Nat.le_refl _⟩
def sg (n : Int) : Int := if 0 < n then 1 else if n < 0 then -1 else 0
theorem spec_l1Sign_eq (n : Int) : spec_l1Sign n = some (sg n) := by
 unfold spec_l1Sign sg
 by_cases h : 0 < n
 ·simp [h]
 ·by_cases h2 : n < 0 <;> simp [h, h2]
theorem impl_sign_eq (s : Rt) (h : isRat s = true) : impl_sign s = some (sg s.1) := by
 unfold impl_sign impl_zero sg
 rw [Option.bind_some, impl_compare_eq s (0, 1) (tame_of h) ⟨by decide, by decide, by decide, by decide⟩, Option.bind_some]
 unfold cmp
 simp only [Int.mul_one, Int.zero_mul]
 by_cases h1 : s.1 < 0
 ·have : ¬ 0 < s.1 := by omega
  simp [h1, this]
 ·by_cases h2 : 0 < s.1 <;> simp [h1, h2]
section
variable {m : Nat} {r : Nat → Rt}
theorem last_get (l : List Trip) (t : Trip) : ((l ++ [t]).map encT)[l.length]? = some (encT t) := by simp
theorem last_set (l : List Trip) (t : Trip) (x : List Int) : ((l ++ [t]).map encT).set l.length x = l.map encT ++ [x] := by
 rw [List.map_append, List.set_append]
 simp
theorem impl_laps_step (hm : m ≤ 1048576) (hr : ∀ i, i < m → isRat (r i) = true) {i : Nat} (hi : i < m) :
  impl_laps_b1 (tab m r) ((lapsN (fun k => sg (r k).1) i).map encT, (i : Int)) = some (.inl ((lapsN (fun k => sg (r k).1) (i + 1)).map encT, ((i + 1 : Nat) : Int))) := by
 have hinv := lap_inv (fun k => sg (r k).1) i
 have hl := hinv.len
 simp only [impl_laps_b1, tab_len, idxO_tab hi, show ((i : Int) < (m : Int)) from by omega, decide_true, if_true, Option.bind_some, w64_nat (show i < 9223372036854775807 by omega), impl_sign_eq (r i) (hr i hi)]
 rcases snoc_cases (lapsN (fun k => sg (r k).1) i) with h | ⟨l, t, h⟩
 ·have e : lapsN (fun k => sg (r k).1) (i + 1) = [(i, i + 1, sg (r i).1)] := by simp only [lapsN, h, lapStep_nil]
  rw [h, e]
  have hw : w64 ((0 : Int) - 1) = -1 := by rw [w64_id (by omega) (by omega)]; rfl
  simp only [List.map_nil, List.length_nil, Int.natCast_zero, hw, show ¬ ((-1 : Int) ≥ 0) by omega, decide_false, Bool.false_eq_true, if_false, Option.bind_some]
  rw [guardO_bind_pos (by simp)]
  rfl
 ·have e : lapsN (fun k => sg (r k).1) (i + 1) = if t.2.2 = sg (r i).1 then l ++ [(t.1, i + 1, sg (r i).1)] else l ++ [t] ++ [(i, i + 1, sg (r i).1)] := by simp only [lapsN, h, lapStep_app]
  rw [h] at hl
  simp at hl
  rw [h]
  have hw : w64 ((((l ++ [t]).map encT).length : Int) - 1) = ((l.length : Nat) : Int) := by
   rw [List.length_map, List.length_append, List.length_singleton, w64_id (by omega) (by omega)]; omega
  simp only [hw, show (((l.length : Nat) : Int) ≥ 0) by omega, decide_true, if_true, idxO_nat, last_get, Option.bind_some, Int.toNat_natCast, last_set]
  have e2 : idxO (encT t) 2 = some t.2.2 := rfl
  have e1 : idxO (encT t) 1 = some ((t.2.1 : Nat) : Int) := rfl
  rw [e2, e1, e]
  simp only [Option.bind_some]
  by_cases hs : t.2.2 = sg (r i).1
  ·have hb : (t.2.2 == sg (r i).1) = true := by simpa using hs
   rw [hb, if_pos rfl, if_pos hs]
   simp only [encT, List.map_append, List.map_cons, List.map_nil, hs]
   rfl
  ·have hb : (t.2.2 == sg (r i).1) = false := by simpa using hs
   rw [hb, if_neg hs]
   simp only [Bool.false_eq_true, if_false]
   rw [guardO_bind_pos (by simp; omega)]
   simp only [encT, List.map_append, List.map_cons, List.map_nil]
theorem spec_laps_step (hm : m ≤ 1048576) {i : Nat} (hi : i < m) :
  spec_imLaps_b1 (tab m r) ((lapsN (fun k => sg (r k).1) i).map encT, (i : Int)) = some (.inl ((lapsN (fun k => sg (r k).1) (i + 1)).map encT, ((i + 1 : Nat) : Int))) := by
 have hinv := lap_inv (fun k => sg (r k).1) i
 have hl := hinv.len
 simp only [spec_imLaps_b1, tab_len, idxO_tab hi, show ((i : Int) < (m : Int)) from by omega, decide_true, if_true, Option.bind_some, w64_nat (show i < 9223372036854775807 by omega), spec_l1Sign_eq]
 rcases snoc_cases (lapsN (fun k => sg (r k).1) i) with h | ⟨l, t, h⟩
 ·have e : lapsN (fun k => sg (r k).1) (i + 1) = [(i, i + 1, sg (r i).1)] := by simp only [lapsN, h, lapStep_nil]
  rw [h, e]
  simp only [List.map_nil, List.length_nil, Int.natCast_zero, show ¬ ((0 : Int) > 0) by omega, decide_false, Bool.false_eq_true, if_false, Option.bind_some]
  rw [guardO_bind_pos (by simp)]
  rfl
 ·have e : lapsN (fun k => sg (r k).1) (i + 1) = if t.2.2 = sg (r i).1 then l ++ [(t.1, i + 1, sg (r i).1)] else l ++ [t] ++ [(i, i + 1, sg (r i).1)] := by simp only [lapsN, h, lapStep_app]
  rw [h] at hl
  simp at hl
  rw [h]
  have hw : w64 ((((l ++ [t]).map encT).length : Int) - 1) = ((l.length : Nat) : Int) := by
   rw [List.length_map, List.length_append, List.length_singleton, w64_id (by omega) (by omega)]; omega
  have hp : ((((l ++ [t]).map encT).length : Int) > 0) := by
   rw [List.length_map, List.length_append, List.length_singleton]; omega
  simp only [hw, hp, decide_true, if_true, idxO_nat, last_get, Option.bind_some, Int.toNat_natCast, last_set]
  have e2 : idxO (encT t) 2 = some t.2.2 := rfl
  have e1 : idxO (encT t) 1 = some ((t.2.1 : Nat) : Int) := rfl
  rw [e2, e1, e]
  simp only [Option.bind_some]
  by_cases hs : t.2.2 = sg (r i).1
  ·have hb : (t.2.2 == sg (r i).1) = true := by simpa using hs
   rw [hb, if_pos rfl, if_pos hs]
   simp only [encT, List.map_append, List.map_cons, List.map_nil, hs]
   rfl
  ·have hb : (t.2.2 == sg (r i).1) = false := by simpa using hs
   rw [hb, if_neg hs]
   simp only [Bool.false_eq_true, if_false]
   rw [guardO_bind_pos (by simp; omega)]
   simp only [encT, List.map_append, List.map_cons, List.map_nil]
end
section
variable {n : Nat} {p : Nat → Pt}
def wayOf (p : Nat → Pt) : Nat → Int := fun i => sg (slopeQ (p i) (p (i + 1))).1
def lapsT (n : Nat) (p : Nat → Pt) : List Trip := lapsN (wayOf p) (n - 1)
theorem impl_laps_tab (h : isMapT n p) (h2 : 2 ≤ n) (hn : n ≤ 12) : impl_laps (tab n p) = some ((lapsT n p).map encT) := by
 have hx := loop_idx (body := impl_laps_b1 (slopesT n p)) (n - 1) (fun i => ((lapsN (wayOf p) i).map encT, (i : Int))) ((lapsT n p).map encT) (fun i hi =>
  impl_laps_step (m := n - 1) (r := fun i => slopeQ (p i) (p (i + 1))) (by omega) (fun i hi => by obtain ⟨u, v, hs⟩ := piece_ok h (i := i) (by omega); exact hs.rs) hi) (by
  simp [impl_laps_b1, slopesT, tab_len, lapsT])
 unfold impl_laps
 rw [impl_slopes_tab h h2 hn, Option.bind_some, show (0 : Int) = ((0 : Nat) : Int) from rfl]
 simp only [lapsN, List.map_nil] at hx
 rw [hx]; rfl
theorem spec_imLaps_tab (h : isMapT n p) (h2 : 2 ≤ n) (hn : n ≤ 12) : spec_imLaps (tab n p) = some ((lapsT n p).map encT) := by
 have hx := loop_idx (body := spec_imLaps_b1 (slopesT n p)) (n - 1) (fun i => ((lapsN (wayOf p) i).map encT, (i : Int))) ((lapsT n p).map encT) (fun i hi =>
  spec_laps_step (m := n - 1) (r := fun i => slopeQ (p i) (p (i + 1))) (by omega) hi) (by
  simp [spec_imLaps_b1, slopesT, tab_len, lapsT])
 unfold spec_imLaps
 rw [spec_imSlopes_tab h h2 hn, Option.bind_some, show (0 : Int) = ((0 : Nat) : Int) from rfl]
 simp only [lapsN, List.map_nil] at hx
 rw [hx]; rfl
end
def lbN (c : Int) : Nat → Int → Int × Bool
 | 0, o => (o, true)
 | k + 1, o => if o * c > 1000000000 then (0, false) else lbN c k (o * c)
def fullB (a b : Rt) : Bool := (a == (0, 1) && b == (1, 1)) || (a == (1, 1) && b == (0, 1))
section
variable {n : Nat} {p : Nat → Pt}
def fullN (p : Nat → Pt) (l : List Trip) : Nat := (l.filter fun t => fullB (p t.1).2 (p t.2.1).2).length
end
end Go.PV

/-
 Plain laws: marks on lists, and that they are held.
 Conditions: none.
-/
set_option linter.all false
namespace Go.PV
section
variable {α : Type}
def marks (w : Nat) (f : Int → α) (n : Nat) (k : Int) : List α := tab n fun i => f (k + (w : Int) * i)
end
def markI (n : Nat) (k : Int) : List Int := marks 1 (fun c => c) n k
def markR (n : Nat) (k : Int) : List (Int × Int) := marks 2 (fun c => (c, c + 1)) n k
end Go.PV

/-
 Plain laws: values of the turning point.
 Conditions: none.
-/
set_option linter.all false
namespace Go.PV
section
variable {n : Nat} {p : Nat → Pt}
theorem coord_unit {r : Rt} (h : coord r = true) : (0 : Rat) ≤ val r ∧ val r ≤ 1 := by
 have hr := coord_rat h
 have c := coord_bd h
 refine (unit_val hr).1 ?_
 simp only [isUnit, Bool.and_eq_true, inB_iff]
 exact ⟨hr, c.1, c.2.1⟩
theorem atQ_unit (h : Curve n p) (hy : ∀ i, i < n → coord (p i).2 = true) {x y : Rt} (hx : isUnit x = true) (ha : atQ n p x = some y) : isUnit y = true := by
 have hr : isRat x = true := by simp only [isUnit, Bool.and_eq_true] at hx; exact hx.1
 have hyr := atQ_rat ha
 obtain ⟨j, hj⟩ := findJ h hx
 rw [atQ_eq hj] at ha
 have hlt := hj.lt
 have hn := h.lo
 have hj1 : j - 1 + 1 < n := by omega
 obtain ⟨u, v, hs⟩ := h.piece hj1
 unfold onQ at ha
 obtain ⟨far, e1, ha⟩ := Option.bind_eq_some_iff.1 ha
 obtain ⟨up, e2, ha⟩ := Option.bind_eq_some_iff.1 ha
 have rx0 := coord_rat (h.x (j - 1) (by omega))
 have rx1 := coord_rat (h.x (j - 1 + 1) hj1)
 have ry0 := (h.y (j - 1) (by omega)).1
 have ry1 := (h.y (j - 1 + 1) hj1).1
 have d2 : ∀ {z : Rt}, isRat z = true → 0 < z.2 := fun hz => by have := (isRat_iff.1 hz).1; omega
 have q1 := subQ_val hr rx0 e1
 have q2 := mulQ_val hs.rs (subQ_rat e1) e2
 have q3 := addQ_val ry0 (mulQ_rat e2) ha
 have q4 := subQ_val ry1 ry0 hs.up
 have q5 := subQ_val rx1 rx0 hs.far
 have q6 := divQ_val hs.ru hs.rv hs.vp hs.div
 have b0 := coord_unit (hy (j - 1) (by omega))
 have b1 := coord_unit (hy (j - 1 + 1) hj1)
 have hup := (less_val (d2 rx0) (d2 rx1)).1 (by have := h.up (j - 1 + 1) (by omega) hj1; simpa using this)
 have hux := (unit_val hr).1 hx
 have hlo : val (p (j - 1)).1 ≤ val x := by
  by_cases h0 : j = 0
  ·subst h0
   rw [show 0 - 1 = 0 from rfl, h.fst]
   have : val (0, 1) = 0 := by have := val_mul (r := ((0 : Int), (1 : Int))) (by decide); simpa using this
   rw [this]; exact hux.1
  ·have := (less_val (d2 rx0) (d2 hr)).1 (hj.bef (j - 1) (by omega))
   exact Rat.le_of_lt this
 have hhi : val x ≤ val (p (j - 1 + 1)).1 := by
  by_cases h0 : j = 0
  ·subst h0
   have := (less_val_no (d2 rx0) (d2 hr)).1 hj.at'
   rw [show 0 - 1 = 0 from rfl] at hup
   grind
  ·rw [show j - 1 + 1 = j by omega] at rx1 ⊢
   exact (less_val_no (d2 rx1) (d2 hr)).1 hj.at'
 refine (unit_val hyr).2 ?_
 rw [q4, q5] at q6
 rw [q3, q2, q1]
 generalize val (slopeQ (p (j - 1)) (p (j - 1 + 1))) = s at *
 generalize val (p (j - 1)).1 = x0 at *
 generalize val (p (j - 1 + 1)).1 = x1 at *
 generalize val (p (j - 1)).2 = y0 at *
 generalize val (p (j - 1 + 1)).2 = y1 at *
 generalize val x = z at *
 rcases Rat.le_total (a := 0) (b := s) with h1 | h1
 ·have m1 := Rat.mul_le_mul_of_nonneg_left (show z - x0 ≤ x1 - x0 by grind) h1
  have m2 := Rat.mul_nonneg h1 (show 0 ≤ z - x0 by grind)
  grind
 ·have m1 := Rat.mul_le_mul_of_nonneg_left (show z - x0 ≤ x1 - x0 by grind) (show 0 ≤ -s by grind)
  have m2 := Rat.mul_nonneg (show 0 ≤ -s by grind) (show 0 ≤ z - x0 by grind)
  grind
noncomputable def vQ (n : Nat) (p : Nat → Pt) (c : Rt) : Nat → Option Rt
 | 0 => some c
 | k + 1 => (vQ n p c k).bind (atQ n p)
noncomputable def vv (n : Nat) (p : Nat → Pt) (c : Rt) (k : Nat) : Rt := (vQ n p c k).getD (0, 0)
variable {c : Rt}
theorem vQ_none {k m : Nat} (h : vQ n p c k = none) (hm : k ≤ m) : vQ n p c m = none := by
  induction m with
  | zero => have : k = 0 := by omega
            subst this; exact h
  | succ m ih =>
    by_cases hk : k = m + 1
    · subst hk; exact h
    · simp [vQ, ih (by omega)]
theorem vQ_unit (h : Curve n p) (hy : ∀ i, i < n → coord (p i).2 = true) (hc : isUnit c = true) : ∀ {k : Nat} {y : Rt}, vQ n p c k = some y → isUnit y = true
 | 0, y, e => by obtain rfl := Option.some.inj e; exact hc
 | k + 1, y, e => by
  obtain ⟨z, e1, e2⟩ := Option.bind_eq_some_iff.1 e
  exact atQ_unit h hy (vQ_unit h hy hc e1) e2
structure Stop (n : Nat) (p : Nat → Pt) (c : Rt) (m L : Nat) : Prop where
 le : L ≤ m
 some : vQ n p c L = some (vv n p c L)
 stop : L = m ∨ vQ n p c (L + 1) = none
theorem Stop.uniq {m L L' : Nat} (h : Stop n p c m L) (h' : Stop n p c m L') : L = L' := by
 rcases Nat.lt_trichotomy L L' with h1 | h1 | h1
 ·rcases h.stop with h2 | h2
  ·have := h'.le; omega
  ·have := vQ_none h2 (show L + 1 ≤ L' by omega)
   rw [h'.some] at this; cases this
 ·exact h1
 ·rcases h'.stop with h2 | h2
  ·have := h.le; omega
  ·have := vQ_none h2 (show L' + 1 ≤ L by omega)
   rw [h.some] at this; cases this
theorem spec_orRun_eq (h : Curve n p) (hy : ∀ i, i < n → coord (p i).2 = true) (hc : isUnit c = true) (m : Nat) (hm : m ≤ 1048576) : ∃ L, Stop n p c m L ∧ spec_orRun (tab n p) c (m : Int) = some (tab (L + 1) (vv n p c)) := by
 obtain ⟨y, h3, h4⟩ := loop_run (body := spec_orRun_b1 (tab n p) (m : Int)) (fun l => ∃ i : Nat, i ≤ m ∧ l = tab (i + 1) (vv n p c) ∧ vQ n p c i = some (vv n p c i)) (fun l => m + 1 - l.length)
  (fun y => ∃ L, Stop n p c m L ∧ (y = .inl (tab (L + 1) (vv n p c)) ∨ y = .inr (tab (L + 1) (vv n p c)))) (fun l ⟨i, hi, e, hq⟩ => by
   subst e
   by_cases hlt : i < m
   ·have e1 : w64 (((i + 1 : Nat) : Int) - 1) = ((i : Nat) : Int) := by rw [w64_pred (by omega) (by omega)]; rfl
    simp only [spec_orRun_b1, tab_len, show (((i + 1 : Nat) : Int) ≤ (m : Int)) from by omega, decide_true, if_true, e1, idxO_tab (show i < i + 1 by omega), Option.bind_some, spec_at h (vQ_unit h hy hc hq)]
    have e2 : vQ n p c (i + 1) = atQ n p (vv n p c i) := by simp [vQ, hq]
    cases ha : atQ n p (vv n p c i) with
    | none => right; exact ⟨_, rfl, i, ⟨hi, hq, .inr (by rw [e2, ha])⟩, .inl rfl⟩
    | some z =>
     have e3 : vv n p c (i + 1) = z := by unfold vv; rw [e2, ha]; rfl
     left
     refine ⟨tab (i + 1) (vv n p c) ++ [z], ?_, ⟨i + 1, hlt, by rw [← e3, tab_succ], by rw [e2, ha, e3]⟩, by simp [tab_len]; omega⟩
     simp only [unO, Bool.not_true, Bool.false_eq_true, if_false]
     rw [guardO_bind_pos (by simp; omega)]
   ·have : i = m := by omega
    subst this
    right
    exact ⟨.inr (tab (i + 1) (vv n p c)), by simp only [spec_orRun_b1, tab_len, show ¬ (((i + 1 : Nat) : Int) ≤ (i : Int)) from by omega, decide_false, Bool.false_eq_true, if_false], i, ⟨hi, hq, .inl rfl⟩, .inr rfl⟩) [c] ⟨0, by omega, rfl, rfl⟩
 obtain ⟨L, h5, h6⟩ := h4
 refine ⟨L, h5, ?_⟩
 unfold spec_orRun
 rw [h3]
 rcases h6 with rfl | rfl <;> rfl
theorem impl_orbit_eq (h : Curve n p) (hy : ∀ i, i < n → coord (p i).2 = true) (hc : isUnit c = true) (m : Nat) (hm : m ≤ 1048576) : ∃ L, Stop n p c m L ∧ impl_orbit (tab n p) c (m : Int) = some (tab (L + 1) (vv n p c)) := by
 obtain ⟨y, h3, h4⟩ := loop_run (body := impl_orbit_b1 (tab n p) (m : Int)) (fun s => ∃ i : Nat, i ≤ m ∧ s = ((vv n p c i).1, (vv n p c i).2, tab (i + 1) (vv n p c), false, (i : Int)) ∧ vQ n p c i = some (vv n p c i)) (fun s => m - s.2.2.2.2.toNat)
  (fun y => ∃ L, Stop n p c m L ∧ y = tab (L + 1) (vv n p c)) (fun s ⟨i, hi, e, hq⟩ => by
   subst e
   by_cases hlt : i < m
   ·obtain ⟨v, e4, e5, e6⟩ := impl_at h (vQ_unit h hy hc hq) false
    simp only [impl_orbit_b1, show ((i : Int) < (m : Int)) from by omega, decide_true, if_true]
    rw [show ((vv n p c i).1, (vv n p c i).2) = vv n p c i from rfl, e4]
    simp only [Option.bind_some]
    have e2 : vQ n p c (i + 1) = atQ n p (vv n p c i) := by simp [vQ, hq]
    cases ha : atQ n p (vv n p c i) with
    | none => rw [ha] at e6; simp only at e6; right; exact ⟨_, by rw [e6]; rfl, i, ⟨hi, hq, .inr (by rw [e2, ha])⟩, rfl⟩
    | some z =>
     rw [ha] at e6
     simp only at e6
     subst e6
     have e3 : vv n p c (i + 1) = z := by unfold vv; rw [e2, ha]; rfl
     left
     refine ⟨_, by
      simp only [Bool.false_eq_true, if_false]
      rw [guardO_bind_pos (by simp [tab_len]; omega)], ⟨i + 1, hlt, by rw [e3, ← tab_succ (i + 1), e3, w64_nat (show i < 9223372036854775807 by omega)], by rw [e2, ha, e3]⟩, by simp only [w64_nat (show i < 9223372036854775807 by omega), Int.toNat_natCast]; omega⟩
   ·have : i = m := by omega
    subst this
    right
    exact ⟨tab (i + 1) (vv n p c), by simp [impl_orbit_b1], i, ⟨hi, hq, .inl rfl⟩, rfl⟩) (c.1, c.2, [c], false, 0) ⟨0, by omega, rfl, rfl⟩
 obtain ⟨L, h5, rfl⟩ := h4
 refine ⟨L, h5, ?_⟩
 unfold impl_orbit
 rw [h3]
 rfl
end
theorem both_kn (f : List Pt) (hl : f.length ≤ 4611686018427387904) : ∃ b, spec_knLaps f = some b ∧ impl_isUnimodal f = some b ∧
  (b = true → ∃ n p t0 t1, f = tab n p ∧ 2 ≤ n ∧ n ≤ 12 ∧ isMapT n p ∧ lapsT n p = [t0, t1]) := by
 obtain ⟨c, b, h1, h2, h3, h4⟩ := both_strict f hl
 unfold spec_knLaps impl_isUnimodal
 rw [h1, h3]
 cases c
 ·exact ⟨false, rfl, rfl, fun h => by cases h⟩
 ·obtain ⟨e1, n, p, rfl, h5, h6, hm, rfl⟩ := h4 rfl
  simp only [Option.bind_some, Bool.not_true, Bool.false_eq_true, if_false, e1, Bool.true_and] at h3 ⊢
  cases hb : strictB n p
  ·exact ⟨false, rfl, rfl, fun h => by cases h⟩
  ·rw [hb] at h3
   simp only [Bool.not_true, Bool.false_eq_true, if_false, spec_imLaps_tab hm h5 h6, Option.bind_some, impl_laps_tab hm h5 h6]
   by_cases hlen : ((((lapsT n p).map encT).length : Int) == 2) = true
   ·have h7 : (lapsT n p).length = 2 := by rw [List.length_map] at hlen; simp only [beq_iff_eq] at hlen; omega
    obtain ⟨t0, t1, ht⟩ : ∃ t0 t1, lapsT n p = [t0, t1] := by
     generalize lapsT n p = l at h7
     match l, h7 with
     | [a, b], _ => exact ⟨a, b, rfl⟩
    rw [ht]
    refine ⟨t0.2.2 == 1, rfl, rfl, fun _ => ⟨n, p, t0, t1, rfl, h5, h6, hm, ht⟩⟩
   ·have hlen' : ((((lapsT n p).map encT).length : Int) == 2) = false := by simpa using hlen
    rw [hlen']
    exact ⟨false, rfl, rfl, fun h => by cases h⟩
section
variable {n : Nat} {p : Nat → Pt} {t0 t1 : Trip}
theorem turn_lt (h2 : 2 ≤ n) (ht : lapsT n p = [t0, t1]) : t1.1 < n := by
 have := (lap_inv (wayOf p) (n - 1)).bd t1 (by show t1 ∈ lapsT n p; rw [ht]; simp)
 omega
theorem impl_turns_eq (h2 : 2 ≤ n) (hn : n ≤ 12) (hm : isMapT n p) (ht : lapsT n p = [t0, t1]) : impl_turns (tab n p) = some [(p t1.1).1] := by
 have hlt := turn_lt h2 ht
 unfold impl_turns
 rw [impl_laps_tab hm h2 hn, ht]
 have e : idxO ([encT t1] : List (List Int)) 0 = some (encT t1) := rfl
 have e2 : idxO (encT t1) 0 = some (t1.1 : Int) := rfl
 have hx := loop_idx (body := impl_turns_b1 (tab n p) [encT t0, encT t1]) 1 (fun i => (if i = 0 then [] else [(p t1.1).1], (i : Int))) [(p t1.1).1] (fun i hi => by
  have : i = 0 := by omega
  subst this
  simp only [impl_turns_b1]
  show (if decide ((0 : Int) < (1 : Int)) = true then (idxO [encT t1] 0).bind _ else _) = _
  simp only [show (0 : Int) < 1 from by decide, decide_true, if_true, e, Option.bind_some, e2, idxO_tab hlt]
  rfl) rfl
 have hx' : loopO (impl_turns_b1 (tab n p) [encT t0, encT t1]) ([], 0) = some [(p t1.1).1] := hx
 show ((guardO (0 ≤ 1 ∧ (1 : Int) ≤ 2)).bind fun u3 => (loopO (impl_turns_b1 (tab n p) [encT t0, encT t1]) ([], 0)).bind fun y5 => impl_turns_k1 y5) = _
 rw [hx']
 rfl
theorem spec_centre_eq (h2 : 2 ≤ n) (hn : n ≤ 12) (hm : isMapT n p) (ht : lapsT n p = [t0, t1]) : spec_knCentre (tab n p) = some (p t1.1).1 := by
 have hlt := turn_lt h2 ht
 unfold spec_knCentre spec_lpTurns
 rw [spec_imLaps_tab hm h2 hn, ht]
 have e : idxO ([encT t1] : List (List Int)) 0 = some (encT t1) := rfl
 have e2 : idxO (encT t1) 0 = some (t1.1 : Int) := rfl
 have hx := loop_idx (body := spec_lpTurns_b1 (tab n p) [encT t0, encT t1]) 1 (fun i => (if i = 0 then [] else [(p t1.1).1], (i : Int))) [(p t1.1).1] (fun i hi => by
  have : i = 0 := by omega
  subst this
  simp only [spec_lpTurns_b1]
  show (if decide ((0 : Int) < (1 : Int)) = true then (idxO [encT t1] 0).bind _ else _) = _
  simp only [show (0 : Int) < 1 from by decide, decide_true, if_true, e, Option.bind_some, e2, idxO_tab hlt]
  rfl) rfl
 have hx' : loopO (spec_lpTurns_b1 (tab n p) [encT t0, encT t1]) ([], 0) = some [(p t1.1).1] := hx
 show (((guardO (0 ≤ 1 ∧ (1 : Int) ≤ 2)).bind fun u3 => (loopO (spec_lpTurns_b1 (tab n p) [encT t0, encT t1]) ([], 0)).bind fun y5 => spec_lpTurns_k1 y5)).bind _ = _
 rw [hx']
 rfl
end
theorem both_TurningValues (f : List Pt) (m : Int) (hl : f.length ≤ 4611686018427387904) : ∃ r ok, r.length ≤ 1048576 ∧ spec_TurningValues f m = some (r, ok) ∧ impl_TurningValues f m = some (r, ok) := by
 obtain ⟨b, h1, h2, h3⟩ := both_kn f hl
 have clone : ∀ l : List Rt, l.length ≤ 1048576 → slices_Clone_Limpl_Rat_impl_Rat l = some l := fun l h => by
  unfold slices_Clone_Limpl_Rat_impl_Rat
  rw [guardO_bind_pos (by omega)]
 unfold spec_TurningValues impl_TurningValues impl_kneading
 rw [h1, h2]
 cases b
 ·exact ⟨[], false, by simp, rfl, by simp [clone]⟩
 ·simp only [Option.bind_some, Bool.not_true, Bool.false_eq_true, if_false, spec_knLength, spec_l1In_eq, impl_within_eq]
  cases hm : inB 1 30 m
  ·exact ⟨[], false, by simp, rfl, by simp [clone]⟩
  ·obtain ⟨n, p, t0, t1, rfl, h5, h6, hT, ht⟩ := h3 rfl
   obtain ⟨m1, m2⟩ := inB_iff.1 hm
   obtain ⟨k, rfl⟩ := Int.eq_ofNat_of_zero_le (show 0 ≤ m by omega)
   have hC := Curve.of_map hT h5 h6
   have hy : ∀ i, i < n → coord (p i).2 = true := fun i hi => (hT.1 i hi).2
   have hlt := turn_lt h5 ht
   have hc : isUnit (p t1.1).1 = true := (unit_val (coord_rat (hC.x _ hlt))).2 (coord_unit (hC.x _ hlt))
   obtain ⟨L, s1, e1⟩ := spec_orRun_eq hC hy hc k (by omega)
   obtain ⟨L', s2, e2⟩ := impl_orbit_eq hC hy hc k (by omega)
   obtain rfl := s1.uniq s2
   have e3 : idxO [(p t1.1).1] 0 = some (p t1.1).1 := rfl
   have hle := s1.le
   simp only [Option.bind_some, Bool.not_true, Bool.false_eq_true, if_false, spec_knValues, spec_centre_eq h5 h6 hT ht, impl_turns_eq h5 h6 hT ht, e1, e2, e3, tab_len]
   by_cases hk : (((L + 1 : Nat) : Int) ≤ (k : Int))
   ·refine ⟨[], false, by simp, by simp only [hk, decide_true, if_true, Option.bind_some], ?_⟩
    simp only [hk, decide_true, if_true, Option.bind_some]
    rw [clone [] (by simp)]
    rfl
   ·have hd : ((tab (L + 1) (vv n p (p t1.1).1)).drop (Int.toNat 1)).length ≤ 1048576 := by rw [List.length_drop, tab_len]; omega
    refine ⟨(tab (L + 1) (vv n p (p t1.1).1)).drop (Int.toNat 1), true, hd, ?_, ?_⟩
    ·simp only [hk, decide_false, Bool.false_eq_true, if_false]
     rw [guardO_bind_pos ⟨by omega, by omega⟩]
     rfl
    ·simp only [hk, decide_false, Bool.false_eq_true, if_false]
     rw [guardO_bind_pos ⟨by omega, by omega⟩, Option.bind_some, clone _ hd]
     rfl
end Go.PV

/-
 Plain laws: kneading words.
 Conditions: none.
-/
set_option linter.all false
namespace Go.PV
theorem cmp_three (a b : Rt) : cmp a b = -1 ∨ cmp a b = 0 ∨ cmp a b = 1 := by
 unfold cmp
 split
 ·simp
 ·split <;> simp
abbrev lcr : ByteArray := ByteArray.mk #[76, 67, 82]
def letter (c z : Rt) : Int := 76 + (if cmp z c = 0 then -9 else if cmp z c = 1 then 6 else 0)
theorem letter_at (c z : Rt) : strAt lcr (w64 (cmp z c + 1)) = letter c z := by
 unfold letter
 rcases cmp_three z c with h | h | h <;> rw [h] <;> decide
theorem bytesB_app (xs ys : List Int) : bytesB xs ++ bytesB ys = bytesB (xs ++ ys) := by
 unfold bytesB
 apply ByteArray.ext
 simp
theorem letter_cut (c z : Rt) : strCut lcr (w64 (1 + cmp z c)) (w64 ((w64 (1 + cmp z c)) + 1)) = bytesB [letter c z] := by
 unfold letter
 rcases cmp_three z c with h | h | h <;> rw [h] <;> rfl
theorem bytesB_size (xs : List Int) : (bytesB xs).size = xs.length := by
 unfold bytesB ByteArray.size
 simp
theorem letters_ok (c : Rt) (l : List Rt) : bytesOk (l.map (letter c)) = true := by
 unfold bytesOk
 rw [List.all_eq_true]
 intro x hx
 obtain ⟨z, _, rfl⟩ := List.mem_map.1 hx
 unfold letter
 split
 ·rfl
 ·split <;> rfl
def wordB (c : Rt) (l : List Rt) : ByteArray := bytesB (l.map (letter c))
theorem wordB_size (c : Rt) (l : List Rt) : (wordB c l).size = l.length := by
 unfold wordB; rw [bytesB_size, List.length_map]
theorem wordB_succ (c : Rt) (l : List Rt) {i : Nat} (h : i < l.length) : wordB c (l.take i) ++ bytesB [letter c l[i]] = wordB c (l.take (i + 1)) := by
 unfold wordB
 rw [bytesB_app, List.take_succ_eq_append_getElem h, List.map_append]
 rfl
theorem impl_word_loop (v1 : List Rt × Rt × Bool) (hl : v1.1.length ≤ 1048576) (hr : ∀ z, z ∈ v1.1 → isRat z = true) (hc : isRat v1.2.1 = true) : loopO (impl_KneadingOf_b1 v1) ([], 0) = some (v1.1.map (letter v1.2.1)) := by
 have h := loop_idx (body := impl_KneadingOf_b1 v1) v1.1.length (fun i => ((v1.1.take i).map (letter v1.2.1), (i : Int))) (v1.1.map (letter v1.2.1)) (fun i hi => by
  have h1 := hr _ (List.getElem_mem hi)
  have h3 : 0 ≤ w64 (cmp v1.1[i] v1.2.1 + 1) ∧ w64 (cmp v1.1[i] v1.2.1 + 1) < ((ByteArray.mk #[76, 67, 82]).size : Int) := by
   rcases cmp_three v1.1[i] v1.2.1 with h | h | h <;> rw [h] <;> decide
  simp only [impl_KneadingOf_b1, show ((i : Int) < (v1.1.length : Int)) from by omega, decide_true, if_true, idxO_lt hi, Option.bind_some, impl_compare_eq _ _ (tame_of h1) (tame_of hc), strings_Builder_WriteByte, strings_Builder_copyCheck]
  rw [guardO_bind_pos h3, guardO_bind_pos (by simp; omega)]
  simp only [Option.bind_some, w64_nat (show i < 9223372036854775807 by omega), letter_at]
  rw [List.take_succ_eq_append_getElem hi, List.map_append]
  rfl) (by simp [impl_KneadingOf_b1])
 exact h
theorem spec_word_loop (f : List Pt) (c : Rt) (v1 : List Rt × Bool) (hf : spec_knCentre f = some c) (hl : v1.1.length ≤ 1048576) (hr : ∀ z, z ∈ v1.1 → isRat z = true) (hc : isRat c = true) : loopO (spec_knWord_b1 f v1) (ByteArray.empty, 0) = some (wordB c v1.1) := by
 have h := loop_idx (body := spec_knWord_b1 f v1) v1.1.length (fun i => (wordB c (v1.1.take i), (i : Int))) (wordB c v1.1) (fun i hi => by
  have h1 := hr _ (List.getElem_mem hi)
  have h3 : 0 ≤ (w64 (1 + cmp v1.1[i] c)) ∧ (w64 (1 + cmp v1.1[i] c)) ≤ (w64 ((w64 (1 + cmp v1.1[i] c)) + 1)) ∧ (w64 ((w64 (1 + cmp v1.1[i] c)) + 1)) ≤ ((ByteArray.mk #[76, 67, 82]).size : Int) := by
   rcases cmp_three v1.1[i] c with h | h | h <;> rw [h] <;> decide
  simp only [spec_knWord_b1, show ((i : Int) < (v1.1.length : Int)) from by omega, decide_true, if_true, idxO_lt hi, Option.bind_some, hf, spec_raCmp_eq _ _ (tame_of h1) (tame_of hc)]
  rw [guardO_bind_pos h3, letter_cut, guardO_bind_pos (by rw [wordB_size, bytesB_size, List.length_take]; simp; omega), wordB_succ c v1.1 hi, w64_nat (show i < 9223372036854775807 by omega)]) (by simp [spec_knWord_b1])
 exact h
theorem both_kneading (f : List Pt) (m : Int) (hl : f.length ≤ 4611686018427387904) :
    (∃ b, spec_knLaps f = some b ∧ impl_isUnimodal f = some b ∧ (b = false ∨ inB 1 30 m = false) ∧ impl_kneading f m = some ([], (0, 0), false)) ∨
    (spec_knLaps f = some true ∧ impl_isUnimodal f = some true ∧ inB 1 30 m = true ∧ ∃ c, spec_knCentre f = some c ∧ isUnit c = true ∧
      ((spec_knValues f m = some ([], false) ∧ impl_kneading f m = some ([], (0, 0), false)) ∨
       ∃ r : List Rt, (r.length : Int) = m ∧ (∀ z, z ∈ r → isUnit z = true) ∧ spec_knValues f m = some (r, true) ∧ impl_kneading f m = some (r, c, true))) := by
  obtain ⟨b, h1, h2, h3⟩ := both_kn f hl
  unfold impl_kneading
  rw [h1, h2]
  cases b
  · left; exact ⟨false, by simp, by simp, .inl rfl, by simp⟩
  · simp only [Option.bind_some, Bool.not_true, Bool.false_eq_true, if_false, impl_within_eq]
    cases hm : inB 1 30 m
    · left; exact ⟨true, by simp, by simp, .inr rfl, by simp⟩
    · right
      obtain ⟨n, p, t0, t1, rfl, h5, h6, hT, ht⟩ := h3 rfl
      obtain ⟨m1, m2⟩ := inB_iff.1 hm
      obtain ⟨k, rfl⟩ := Int.eq_ofNat_of_zero_le (show 0 ≤ m by omega)
      have hC := Curve.of_map hT h5 h6
      have hy : ∀ i, i < n → coord (p i).2 = true := fun i hi => (hT.1 i hi).2
      have hlt := turn_lt h5 ht
      have hc : isUnit (p t1.1).1 = true := (unit_val (coord_rat (hC.x _ hlt))).2 (coord_unit (hC.x _ hlt))
      obtain ⟨L, s1, e1⟩ := spec_orRun_eq hC hy hc k (by omega)
      obtain ⟨L', s2, e2⟩ := impl_orbit_eq hC hy hc k (by omega)
      obtain rfl := s1.uniq s2
      have e3 : idxO [(p t1.1).1] 0 = some (p t1.1).1 := rfl
      have hle := s1.le
      refine ⟨by simp, by simp, by simp, (p t1.1).1, spec_centre_eq h5 h6 hT ht, hc, ?_⟩
      simp only [Option.bind_some, Bool.not_true, Bool.false_eq_true, if_false, spec_knValues, spec_centre_eq h5 h6 hT ht, impl_turns_eq h5 h6 hT ht, e1, e2, e3, tab_len]
      by_cases hk : (((L + 1 : Nat) : Int) ≤ (k : Int))
      · left
        simp only [hk, decide_true, if_true, Option.bind_some, and_self]
      · right
        have hLk : L = k := by omega
        subst hLk
        refine ⟨(tab (L + 1) (vv n p (p t1.1).1)).drop (Int.toNat 1), by rw [List.length_drop, tab_len]; show ((L + 1 - 1 : Nat) : Int) = _; omega, ?_, ?_, ?_⟩
        · intro z hz
          have hz := List.mem_of_mem_drop hz
          obtain ⟨i, hi, rfl⟩ : ∃ i, i < L + 1 ∧ vv n p (p t1.1).1 i = z := by simpa [tab] using hz
          have hq : vQ n p (p t1.1).1 i ≠ none := fun hn => by
            have := vQ_none hn (show i ≤ L by omega)
            rw [s1.some] at this; cases this
          obtain ⟨y, hy'⟩ := Option.ne_none_iff_exists'.1 hq
          have : vv n p (p t1.1).1 i = y := by unfold vv; rw [hy']; rfl
          rw [this]
          exact vQ_unit hC hy hc hy'
        · simp only [hk, decide_false, Bool.false_eq_true, if_false]
          rw [guardO_bind_pos ⟨by omega, by omega⟩]
        · simp only [hk, decide_false, Bool.false_eq_true, if_false]
          rw [guardO_bind_pos ⟨by omega, by omega⟩]
theorem uni_rat {c : Rt} (h : isUnit c = true) : isRat c = true := by
 simp only [isUnit, Bool.and_eq_true] at h; exact h.1
theorem both_KneadingOf (f : List Pt) (m : Int) (hl : f.length ≤ 4611686018427387904) : ∃ r, spec_KneadingOf f m = some r ∧ impl_KneadingOf f m = some r := by
 unfold spec_KneadingOf impl_KneadingOf
 rcases both_kneading f m hl with ⟨b, h1, h2, h3, h4⟩ | ⟨h1, h2, h3, c, h4, h5, h6⟩
 ·refine ⟨(ByteArray.empty, false), ?_, ?_⟩
  ·rw [h1]
   cases b
   ·rfl
   ·rcases h3 with h3 | h3
    ·cases h3
    ·simp only [Option.bind_some, Bool.not_true, Bool.false_eq_true, if_false, spec_knLength, spec_l1In_eq, h3, Bool.not_false, if_true]
  ·rw [h4]; rfl
 ·simp only [h1, Option.bind_some, Bool.not_true, Bool.false_eq_true, if_false, spec_knLength, spec_l1In_eq, h3]
  rcases h6 with ⟨h7, h8⟩ | ⟨r, h7, h8, h9, h10⟩
  ·refine ⟨(ByteArray.empty, false), ?_, ?_⟩
   ·simp [spec_knWord, h7]
   ·simp [h8]
  ·obtain ⟨m1, m2⟩ := inB_iff.1 h3
   refine ⟨(wordB c r, true), ?_, ?_⟩
   ·simp only [spec_knWord, h9, Option.bind_some, Bool.not_true, Bool.false_eq_true, if_false]
    rw [spec_word_loop f c (r, true) h4 (by simp only; omega) (fun z hz => uni_rat (h8 z hz)) (uni_rat h5)]
    rfl
   ·simp only [h10, Option.bind_some, Bool.not_true, Bool.false_eq_true, if_false]
    rw [impl_word_loop (r, c, true) (by simp only; omega) (fun z hz => uni_rat (h8 z hz)) (uni_rat h5)]
    simp only [Option.bind_some, impl_KneadingOf_k1, strings_Builder_String]
    have hne : r.map (letter c) ≠ [] := by
     cases r with
     | nil => simp at h7; omega
     | cons a l => simp
    rw [guardO_bind_pos ⟨hne, letters_ok c r⟩]
    rfl
end Go.PV

/-
 Plain laws: words and heights.
 Conditions: none.
-/
set_option linter.all false
set_option maxRecDepth 100000
namespace Go.PV
def isLet (b : UInt8) : Bool := b == 76 || b == 67 || b == 82
def wordOk (s : ByteArray) : Bool := s.data.toList.all isLet
theorem toList_loop (b : ByteArray) : ∀ (k i : Nat) (r : List UInt8), b.size - i = k → ByteArray.toList.loop b i r = r.reverse ++ b.data.toList.drop i := by
 intro k
 induction k with
 | zero =>
  intro i r h
  rw [ByteArray.toList.loop, if_neg (by omega)]
  rw [List.drop_eq_nil_of_le (by rw [Array.length_toList]; exact Nat.le_of_sub_eq_zero h)]
  simp
 | succ k ih =>
  intro i r h
  have hi : i < b.size := by omega
  rw [ByteArray.toList.loop, if_pos hi, ih (i + 1) _ (by omega)]
  have hl : i < b.data.toList.length := by rw [Array.length_toList]; exact hi
  rw [List.drop_eq_getElem_cons hl]
  have : b.get! i = b.data.toList[i] := by
   have hi' : i < b.data.size := hi
   simp [ByteArray.get!, getElem!_pos b.data i hi']
  simp [this]
theorem ba_toList (b : ByteArray) : b.toList = b.data.toList := by
 unfold ByteArray.toList
 rw [toList_loop b b.size 0 [] rfl]
 simp
theorem dropWhile_nil {α : Type} {p : α → Bool} : ∀ {l : List α}, l.dropWhile p = [] ↔ l.all p = true
 | [] => by simp
 | a :: l => by
  rw [List.dropWhile_cons]
  cases h : p a
  ·simp [h]
  ·simp only [if_true, List.all_cons, h, Bool.true_and]
   exact dropWhile_nil
theorem trim_nil (s : ByteArray) : ((trimB s lcr).toList == ByteArray.empty.toList) = wordOk s := by
 have hc : ∀ b : UInt8, (lcr.data.toList.contains b) = isLet b := fun b => by
  have : ∀ n : Nat, n < 256 → (lcr.data.toList.contains (UInt8.ofNat n)) = isLet (UInt8.ofNat n) := by decide
  have h := this b.toNat b.toNat_lt
  simpa using h
 have he : ByteArray.empty.toList = [] := by rw [ba_toList]; rfl
 rw [he, ba_toList]
 unfold trimB wordOk
 simp only [hc]
 rw [show ∀ l : List UInt8, (l == []) = l.isEmpty from fun l => by cases l <;> rfl]
 rw [Bool.eq_iff_iff, List.isEmpty_iff, dropWhile_nil, List.all_reverse]
 constructor
 ·intro h
  have h2 := (List.all_eq_true.1 h)
  have h3 : (s.data.toList.reverse.dropWhile isLet) = [] := by
   cases h4 : s.data.toList.reverse.dropWhile isLet with
   | nil => rfl
   | cons a l =>
    have h5 := h2 a (by rw [h4]; simp)
    have h6 : isLet a = false := by
     have := List.head_dropWhile_not (p := isLet) (l := s.data.toList.reverse) (by rw [h4]; simp)
     simpa [h4] using this
    rw [h5] at h6; cases h6
  rw [dropWhile_nil, List.all_reverse] at h3
  exact h3
 ·intro h
  have h3 : (s.data.toList.reverse.dropWhile isLet) = [] := by rw [dropWhile_nil, List.all_reverse]; exact h
  rw [h3]; rfl
theorem impl_isKneadingWord_eq (s : ByteArray) (hs : s.size ≤ 1048576) : impl_isKneadingWord s = some (inB 1 30 (s.size : Int) && wordOk s) := by
 unfold impl_isKneadingWord
 rw [impl_within_eq, Option.bind_some]
 cases h : inB 1 30 (s.size : Int)
 ·rfl
 ·simp only [if_true, strings_Trim]
  rw [guardO_bind_pos ⟨by omega, by decide, by decide⟩]
  simp only [Option.bind_some, Bool.true_and]
  rw [show (ByteArray.mk #[76, 67, 82]) = lcr from rfl, trim_nil]
def ints (s : ByteArray) : List Int := s.data.toList.map fun b => (b.toNat : Int)
theorem ints_len (s : ByteArray) : (ints s).length = s.size := by
 unfold ints
 rw [List.length_map, Array.length_toList]
 rfl
theorem strAt_ints (s : ByteArray) {i : Nat} (h : i < s.size) : strAt s (i : Int) = (ints s)[i]'(by rw [ints_len]; exact h) := by
 unfold strAt
 rw [dif_pos ⟨by omega, by omega⟩]
 simp [ints]
 rfl
def isL (x : Int) : Bool := x == 76 || x == 67 || x == 82
theorem wordOk_ints (s : ByteArray) : wordOk s = (ints s).all isL := by
 unfold wordOk ints
 rw [List.all_map]
 congr 1
 funext b
 have : ∀ n : Nat, n < 256 → isLet (UInt8.ofNat n) = isL ((UInt8.ofNat n).toNat : Int) := by decide
 have h := this b.toNat b.toNat_lt
 simpa using h
theorem spec_knGood_eq (s : ByteArray) (hs : s.size ≤ 1048576) : spec_knGood s lcr = some (inB 1 30 (s.size : Int) && wordOk s) := by
 have inner : ∀ i : Nat, i < s.size → loopO (spec_knGood_b2 s lcr (i : Int)) (false, 0) = some (isL (strAt s (i : Int))) := fun i hi => by
  have g0 : 0 ≤ (i : Int) ∧ (i : Int) < (s.size : Int) := ⟨by omega, by omega⟩
  have hz : ((lcr.size : Int)) = 3 := rfl
  have a0 : strAt lcr 0 = 76 := by decide
  have a1 : strAt lcr 1 = 67 := by decide
  have a2 : strAt lcr 2 = 82 := by decide
  have w0 : w64 (0 + 1) = 1 := by decide
  have w1 : w64 (1 + 1) = 2 := by decide
  have w2 : w64 (2 + 1) = 3 := by decide
  have gd : guardO (0 ≤ (i : Int) ∧ (i : Int) < (s.size : Int)) = some () := by unfold guardO; rw [if_pos g0]
  have st : ∀ (f : Bool) (k : Int), (k = 0 ∨ k = 1 ∨ k = 2) → spec_knGood_b2 s lcr (i : Int) (f, k) = some (.inl (f || strAt s (i : Int) == strAt lcr k, w64 (k + 1))) := fun f k hk => by
   unfold spec_knGood_b2
   have hk3 : k < 3 := by omega
   simp only [hz, hk3, decide_true, if_true]
   cases f
   ·have gk : guardO (0 ≤ k ∧ True) = some () := by unfold guardO; rw [if_pos ⟨by omega, trivial⟩]
    simp only [Bool.false_eq_true, if_false, gd, gk, Option.bind_some, Bool.false_or]
   ·simp
  rw [loopO_eq, st false 0 (.inl rfl)]
  simp only [w0]
  rw [loopO_eq, st _ 1 (.inr (.inl rfl))]
  simp only [w1]
  rw [loopO_eq, st _ 2 (.inr (.inr rfl))]
  simp only [w2]
  rw [loopO_eq]
  have : spec_knGood_b2 s lcr (i : Int) ((((false || strAt s (i : Int) == strAt lcr 0) || strAt s (i : Int) == strAt lcr 1) || strAt s (i : Int) == strAt lcr 2), 3) = some (.inr ((((false || strAt s (i : Int) == strAt lcr 0) || strAt s (i : Int) == strAt lcr 1) || strAt s (i : Int) == strAt lcr 2))) := by
   unfold spec_knGood_b2
   simp [hz]
  rw [this, a0, a1, a2]
  simp [isL]
 have h := loop_any (xs := ints s) (body := spec_knGood_b1 s lcr) (fun x => !isL x) (fun i => (i : Int)) (.inl false) (.inr ()) (fun i x hx => by
  have hi : i < s.size := by rw [← ints_len]; exact getElem?_lt hx
  have hx' : strAt s (i : Int) = x := by
   rw [strAt_ints s hi]
   have := (List.getElem?_eq_some_iff.1 hx).2
   exact this
  simp only [spec_knGood_b1, show ((i : Int) < (s.size : Int)) from by omega, decide_true, if_true, inner i hi, Option.bind_some, spec_knGood_k3, hx', spec_knGood_k2, w64_nat (show i < 9223372036854775807 by omega)]
  cases isL x <;> rfl) (by
   simp [spec_knGood_b1, ints_len])
 unfold spec_knGood
 rw [show (0 : Int) = ((0 : Nat) : Int) from rfl, h, wordOk_ints, List.all_eq_not_any_not]
 cases (ints s).any fun x => !isL x
 ·simp [spec_knGood_k1, spec_knLength, spec_l1In_eq]
 ·simp
def rk (x : Int) : Int := if x = 76 then 0 else if x = 67 then 1 else 2
def kcW : Int → List Int → List Int → Int
 | e, x :: xs, y :: ys => if x = y then (if x = 82 then kcW (-e) xs ys else kcW e xs ys) else if rk x < rk y then -e else e
 | _, _, _ => 0
theorem indexByte_lcr {x : Int} (h : isL x = true) : strings_IndexByte lcr x = some (rk x) := by
 unfold isL at h
 simp only [Bool.or_eq_true, beq_iff_eq] at h
 rcases h with (rfl | rfl) | rfl <;> decide
theorem rk_eq {x : Int} (h : isL x = true) : spec_knRank x = some (rk x) := by
 unfold isL at h
 simp only [Bool.or_eq_true, beq_iff_eq] at h
 rcases h with (rfl | rfl) | rfl <;> decide
theorem rk_inj {x y : Int} (h : isL x = true) (h' : isL y = true) (e : rk x = rk y) : x = y := by
 unfold isL at h h'
 simp only [Bool.or_eq_true, beq_iff_eq] at h h'
 rcases h with (rfl | rfl) | rfl <;> rcases h' with (rfl | rfl) | rfl <;> first | rfl | (revert e; decide)
theorem rk_bd (x : Int) : 0 ≤ rk x ∧ rk x ≤ 2 := by unfold rk; split <;> (try split) <;> omega
theorem drop_cons_int {l : List Int} {i : Nat} (h : i < l.length) : l.drop i = l[i] :: l.drop (i + 1) := List.drop_eq_getElem_cons h
theorem isL_at {s : ByteArray} (h : wordOk s = true) {i : Nat} (hi : i < (ints s).length) : isL (ints s)[i] = true := by
 rw [wordOk_ints] at h
 exact List.all_eq_true.1 h _ (List.getElem_mem hi)
theorem impl_cmp_step {s t : ByteArray} (hs : wordOk s = true) (ht : wordOk t = true) (hl : s.size = t.size) (hb : s.size ≤ 1048576) {i : Nat} (e : Int) (he : e = 1 ∨ e = -1) (hi : i < s.size) :
  impl_compareKneading_b1 s t (e, (i : Int)) = some (if (ints s)[i]'(by rw [ints_len]; exact hi) = (ints t)[i]'(by rw [ints_len, ← hl]; exact hi) then .inl (if (ints t)[i]'(by rw [ints_len, ← hl]; exact hi) = 82 then -e else e, ((i + 1 : Nat) : Int))
   else .inr (.inl (if rk ((ints s)[i]'(by rw [ints_len]; exact hi)) < rk ((ints t)[i]'(by rw [ints_len, ← hl]; exact hi)) then -e else e))) := by
 have hi2 : i < t.size := by omega
 have hi' : i < (ints s).length := by rw [ints_len]; exact hi
 have hi2' : i < (ints t).length := by rw [ints_len]; exact hi2
 have l1 := isL_at hs hi'
 have l2 := isL_at ht hi2'
 have wi : w64 ((i : Int) + 1) = ((i + 1 : Nat) : Int) := w64_nat (by omega)
 have we : w64 (0 - e) = -e := by rcases he with rfl | rfl <;> decide
 unfold impl_compareKneading_b1
 rw [if_pos (show decide ((i : Int) < (s.size : Int)) = true by simpa using hi)]
 simp only [strAt_ints s hi, strAt_ints t hi2, show (ByteArray.mk #[76, 67, 82]) = lcr from rfl, indexByte_lcr l1, indexByte_lcr l2, wi, we, Option.bind_some]
 rw [guardO_bind_pos ⟨by omega, by omega⟩, guardO_bind_pos ⟨by omega, by omega⟩]
 by_cases hxy : (ints s)[i] = (ints t)[i]
 ·rw [if_pos hxy, hxy]
  by_cases h82 : (ints t)[i] = 82
  ·simp [h82]
  ·simp [h82]
 ·have hne : rk (ints s)[i] ≠ rk (ints t)[i] := fun h => hxy (rk_inj l1 l2 h)
  rw [if_neg hxy]
  by_cases hlt : rk (ints s)[i] < rk (ints t)[i]
  ·simp [hlt]
  ·have hgt : rk (ints t)[i] < rk (ints s)[i] := by omega
   simp [hlt, hgt]
theorem spec_cmp_step {s t : ByteArray} (hs : wordOk s = true) (ht : wordOk t = true) (hl : s.size = t.size) (hb : s.size ≤ 1048576) {i : Nat} (e : Int) (he : e = 1 ∨ e = -1) (hi : i < s.size) :
  spec_knCompare_b1 s t (e, (i : Int)) = some (if (ints s)[i]'(by rw [ints_len]; exact hi) = (ints t)[i]'(by rw [ints_len, ← hl]; exact hi) then .inl (if (ints t)[i]'(by rw [ints_len, ← hl]; exact hi) = 82 then -e else e, ((i + 1 : Nat) : Int))
   else .inr (.inl (if rk ((ints s)[i]'(by rw [ints_len]; exact hi)) < rk ((ints t)[i]'(by rw [ints_len, ← hl]; exact hi)) then -e else e))) := by
 have hi2 : i < t.size := by omega
 have hi' : i < (ints s).length := by rw [ints_len]; exact hi
 have hi2' : i < (ints t).length := by rw [ints_len]; exact hi2
 have l1 := isL_at hs hi'
 have l2 := isL_at ht hi2'
 have wi : w64 ((i : Int) + 1) = ((i + 1 : Nat) : Int) := w64_nat (by omega)
 have we : w64 (0 - e) = -e := by rcases he with rfl | rfl <;> decide
 unfold spec_knCompare_b1
 rw [if_pos (show decide ((i : Int) < (s.size : Int)) = true by simpa using hi)]
 rw [guardO_bind_pos ⟨by omega, by omega⟩, guardO_bind_pos ⟨by omega, by omega⟩]
 simp only [strAt_ints s hi, strAt_ints t hi2, rk_eq l1, rk_eq l2, wi, we, Option.bind_some]
 by_cases hxy : (ints s)[i] = (ints t)[i]
 ·rw [if_pos hxy, hxy]
  by_cases h82 : (ints t)[i] = 82
  ·simp [h82]
  ·simp [h82]
 ·have hne : rk (ints s)[i] ≠ rk (ints t)[i] := fun h => hxy (rk_inj l1 l2 h)
  have b1 := rk_bd (ints s)[i]
  have b2 := rk_bd (ints t)[i]
  rw [if_neg hxy]
  rw [if_pos (show ((ints s)[i] != (ints t)[i]) = true from by simpa using hxy)]
  rw [w64_id (n := rk (ints s)[i] - rk (ints t)[i]) (by omega) (by omega)]
  unfold spec_l1Sign
  by_cases hlt : rk (ints s)[i] < rk (ints t)[i]
  ·have h1 : rk (ints s)[i] - rk (ints t)[i] < 0 := by omega
   have h2 : ¬ (rk (ints s)[i] - rk (ints t)[i] > 0) := by omega
   have we2 : w64 (e * (-1)) = -e := by rcases he with rfl | rfl <;> decide
   simp only [hlt, h1, h2, if_true, if_false, decide_true, decide_false, Bool.false_eq_true, Option.bind_some, we2]
  ·have hgt : rk (ints s)[i] - rk (ints t)[i] > 0 := by omega
   have we2 : w64 (e * 1) = e := by rcases he with rfl | rfl <;> decide
   have h1 : ¬ (rk (ints s)[i] - rk (ints t)[i] < 0) := by omega
   simp only [hlt, h1, hgt, if_true, if_false, decide_true, decide_false, Bool.false_eq_true, Option.bind_some, we2]
theorem cmp_run {s t : ByteArray} (body : Int × Int → Option ((Int × Int) ⊕ (Int ⊕ Unit))) (kk : Unit → Option Int) (hk : kk () = some 0) (hl : s.size = t.size)
  (hst : ∀ (i : Nat) (e : Int) (he : e = 1 ∨ e = -1) (hi : i < s.size), body (e, (i : Int)) = some (if (ints s)[i]'(by rw [ints_len]; exact hi) = (ints t)[i]'(by rw [ints_len, ← hl]; exact hi) then .inl (if (ints t)[i]'(by rw [ints_len, ← hl]; exact hi) = 82 then -e else e, ((i + 1 : Nat) : Int))
   else .inr (.inl (if rk ((ints s)[i]'(by rw [ints_len]; exact hi)) < rk ((ints t)[i]'(by rw [ints_len, ← hl]; exact hi)) then -e else e))))
  (hend : ∀ e, body (e, (s.size : Int)) = some (.inr (.inr ()))) : ∀ (d i : Nat) (e : Int), (e = 1 ∨ e = -1) → s.size - i = d → i ≤ s.size →
  ((loopO body (e, (i : Int))).bind fun y3 => (Sum.elim (fun p => some p) (fun p => kk p)) y3) = some (kcW e ((ints s).drop i) ((ints t).drop i)) := by
 intro d
 induction d with
 | zero =>
  intro i e he h1 h2
  have : i = s.size := by omega
  subst this
  rw [loopO_eq, hend, List.drop_eq_nil_of_le (by rw [ints_len]; omega)]
  simp only [Option.bind_some, Sum.elim_inr, hk]
  rfl
 | succ d ih =>
  intro i e he h1 h2
  have hi : i < s.size := by omega
  have hi' : i < (ints s).length := by rw [ints_len]; exact hi
  have hi2' : i < (ints t).length := by rw [ints_len]; omega
  rw [loopO_eq, hst i e he hi, drop_cons_int hi', drop_cons_int hi2']
  simp only [kcW]
  by_cases hxy : (ints s)[i] = (ints t)[i]
  ·rw [if_pos hxy, if_pos hxy, hxy]
   by_cases h82 : (ints t)[i] = 82
   ·rw [if_pos h82, if_pos h82]
    exact ih (i + 1) (-e) (by omega) (by omega) (by omega)
   ·rw [if_neg h82, if_neg h82]
    exact ih (i + 1) e he (by omega) (by omega)
  ·rw [if_neg hxy, if_neg hxy]
   rfl
theorem impl_compare_words {s t : ByteArray} (hs : wordOk s = true) (ht : wordOk t = true) (hl : s.size = t.size) (hb : s.size ≤ 1048576) : impl_compareKneading s t = some (kcW 1 (ints s) (ints t)) := by
 have := cmp_run (impl_compareKneading_b1 s t) impl_compareKneading_k1 rfl hl (fun i e he hi => impl_cmp_step hs ht hl hb e he hi) (fun e => by simp [impl_compareKneading_b1]) s.size 0 1 (.inl rfl) (by omega) (by omega)
 simpa [impl_compareKneading] using this
theorem spec_compare_words {s t : ByteArray} (hs : wordOk s = true) (ht : wordOk t = true) (hl : s.size = t.size) (hb : s.size ≤ 1048576) : spec_knCompare s t = some (kcW 1 (ints s) (ints t)) := by
 have := cmp_run (spec_knCompare_b1 s t) spec_knCompare_k1 rfl hl (fun i e he hi => spec_cmp_step hs ht hl hb e he hi) (fun e => by simp [spec_knCompare_b1]) s.size 0 1 (.inl rfl) (by omega) (by omega)
 simpa [spec_knCompare] using this
end Go.PV

/-
 Plain laws: tents, and the height for a word.
 Conditions: none.
-/
set_option linter.all false
set_option maxRecDepth 100000
namespace Go.PV
section
variable {n : Nat} {p : Nat → Pt} {t0 t1 : Trip}
theorem kn_true (h2 : 2 ≤ n) (hn : n ≤ 12) (hm : isMapT n p) (hs : strictB n p = true) (ht : lapsT n p = [t0, t1]) (h1 : t0.2.2 = 1) : spec_knLaps (tab n p) = some true ∧ impl_isUnimodal (tab n p) = some true := by
 obtain ⟨c, b, e1, e2, e3, e4⟩ := both_strict (tab n p) (by rw [tab_len]; omega)
 obtain ⟨c', e5, e6⟩ := spec_imGood_tab n p h2 hn
 rw [e5] at e1
 obtain rfl := Option.some.inj e1
 have hc : c' = true := e6.2 hm
 subst hc
 obtain ⟨e7, n', p', e8, h3, h4, hm', rfl⟩ := e4 rfl
 have e9 := spec_lpStrict_tab hm h2 hn
 rw [e7] at e9
 have hb : strictB n' p' = true := by rw [← hs]; exact Option.some.inj e9
 unfold spec_knLaps impl_isUnimodal
 rw [e5, e3]
 simp only [Option.bind_some, Bool.not_true, Bool.false_eq_true, if_false, e7, hb, Bool.true_and]
 rw [spec_imLaps_tab hm h2 hn, impl_laps_tab hm h2 hn, ht]
 have f1 : idxO ([encT t0, encT t1] : List (List Int)) 0 = some (encT t0) := rfl
 have f2 : idxO (encT t0) 2 = some t0.2.2 := rfl
 simp [f1, f2, h1]
theorem kneading_tab (h5 : 2 ≤ n) (h6 : n ≤ 12) (hT : isMapT n p) (ht : lapsT n p = [t0, t1]) (h2 : impl_isUnimodal (tab n p) = some true) (k : Nat) (m1 : 1 ≤ k) (m2 : k ≤ 30) :
  (vQ n p (p t1.1).1 k = none ∧ spec_knValues (tab n p) (k : Int) = some ([], false) ∧ impl_kneading (tab n p) (k : Int) = some ([], (0, 0), false)) ∨
  (vQ n p (p t1.1).1 k = some (vv n p (p t1.1).1 k) ∧ spec_knValues (tab n p) (k : Int) = some (tab k (fun i => vv n p (p t1.1).1 (i + 1)), true) ∧ impl_kneading (tab n p) (k : Int) = some (tab k (fun i => vv n p (p t1.1).1 (i + 1)), (p t1.1).1, true)) := by
 have hC := Curve.of_map hT h5 h6
 have hy : ∀ i, i < n → coord (p i).2 = true := fun i hi => (hT.1 i hi).2
 have hlt := turn_lt h5 ht
 have hc : isUnit (p t1.1).1 = true := (unit_val (coord_rat (hC.x _ hlt))).2 (coord_unit (hC.x _ hlt))
 obtain ⟨L, s1, e1⟩ := spec_orRun_eq hC hy hc k (by omega)
 obtain ⟨L', s2, e2⟩ := impl_orbit_eq hC hy hc k (by omega)
 obtain rfl := s1.uniq s2
 have e3 : idxO [(p t1.1).1] 0 = some (p t1.1).1 := rfl
 have hle := s1.le
 have hin : inB 1 30 (k : Int) = true := inB_iff.2 ⟨by omega, by omega⟩
 unfold impl_kneading
 simp only [h2, impl_within_eq, hin, Option.bind_some, Bool.not_true, Bool.false_eq_true, if_false, spec_knValues, spec_centre_eq h5 h6 hT ht, impl_turns_eq h5 h6 hT ht, e1, e2, e3, tab_len]
 by_cases hk : (((L + 1 : Nat) : Int) ≤ (k : Int))
 ·left
  simp only [hk, decide_true, if_true, Option.bind_some, and_self, and_true]
  rcases s1.stop with h | h
  ·omega
  ·exact vQ_none h (by omega)
 ·right
  have hLk : L = k := by omega
  subst hLk
  have hd : (tab (L + 1) (vv n p (p t1.1).1)).drop (Int.toNat 1) = tab L (fun i => vv n p (p t1.1).1 (i + 1)) := by
   apply List.ext_getElem
   ·rw [List.length_drop, tab_len, tab_len]; rfl
   ·intro i a1 a2
    rw [List.getElem_drop]
    simp [tab, Nat.add_comm]
  refine ⟨s1.some, ?_, ?_⟩
  ·simp only [hk, decide_false, Bool.false_eq_true, if_false]
   rw [guardO_bind_pos ⟨by omega, by omega⟩, hd]
  ·simp only [hk, decide_false, Bool.false_eq_true, if_false]
   rw [guardO_bind_pos ⟨by omega, by omega⟩, hd]
theorem vv_unit (hC : Curve n p) (hy : ∀ i, i < n → coord (p i).2 = true) {c : Rt} (hc : isUnit c = true) {k : Nat} (h : vQ n p c k = some (vv n p c k)) {i : Nat} (hi : i ≤ k) : vQ n p c i = some (vv n p c i) ∧ isUnit (vv n p c i) = true := by
 have hq : vQ n p c i ≠ none := fun hn => by
  have := vQ_none hn hi
  rw [h] at this; cases this
 obtain ⟨y, hy'⟩ := Option.ne_none_iff_exists'.1 hq
 have : vv n p c i = y := by unfold vv; rw [hy']; rfl
 rw [this]
 exact ⟨hy', vQ_unit hC hy hc hy'⟩
theorem words_tab (h5 : 2 ≤ n) (h6 : n ≤ 12) (hT : isMapT n p) (ht : lapsT n p = [t0, t1]) (h2 : impl_isUnimodal (tab n p) = some true) (k : Nat) (m1 : 1 ≤ k) (m2 : k ≤ 30) (hv : vQ n p (p t1.1).1 k ≠ none) :
  spec_knWord (tab n p) (k : Int) = some (wordB (p t1.1).1 (tab k (fun i => vv n p (p t1.1).1 (i + 1))), true) ∧ impl_KneadingOf (tab n p) (k : Int) = some (wordB (p t1.1).1 (tab k (fun i => vv n p (p t1.1).1 (i + 1))), true) := by
 have hC := Curve.of_map hT h5 h6
 have hy : ∀ i, i < n → coord (p i).2 = true := fun i hi => (hT.1 i hi).2
 have hlt := turn_lt h5 ht
 have hc : isUnit (p t1.1).1 = true := (unit_val (coord_rat (hC.x _ hlt))).2 (coord_unit (hC.x _ hlt))
 rcases kneading_tab h5 h6 hT ht h2 k m1 m2 with ⟨e1, _⟩ | ⟨e1, e2, e3⟩
 ·exact absurd e1 hv
 ·have hr : ∀ z, z ∈ tab k (fun i => vv n p (p t1.1).1 (i + 1)) → isRat z = true := fun z hz => by
   obtain ⟨i, hi, rfl⟩ := tab_mem.1 hz
   exact uni_rat (vv_unit hC hy hc e1 (show i + 1 ≤ k by omega)).2
  have hl : (tab k (fun i => vv n p (p t1.1).1 (i + 1))).length = k := tab_len _ _
  refine ⟨?_, ?_⟩
  ·simp only [spec_knWord, e2, Option.bind_some, Bool.not_true, Bool.false_eq_true, if_false]
   rw [spec_word_loop (tab n p) (p t1.1).1 (tab k (fun i => vv n p (p t1.1).1 (i + 1)), true) (spec_centre_eq h5 h6 hT ht) (by simp only; omega) hr (uni_rat hc)]
   rfl
  ·simp only [impl_KneadingOf, e3, Option.bind_some, Bool.not_true, Bool.false_eq_true, if_false]
   rw [impl_word_loop (tab k (fun i => vv n p (p t1.1).1 (i + 1)), (p t1.1).1, true) (by simp only; omega) hr (uni_rat hc)]
   simp only [Option.bind_some, impl_KneadingOf_k1, strings_Builder_String]
   have hne : (tab k (fun i => vv n p (p t1.1).1 (i + 1))).map (letter (p t1.1).1) ≠ [] := by
    intro h
    have := congrArg List.length h
    rw [List.length_map, hl] at this
    simp at this; omega
   rw [guardO_bind_pos ⟨hne, letters_ok _ _⟩]
   rfl
end
theorem wordB_ok (c : Rt) (l : List Rt) : wordOk (wordB c l) = true := by
 unfold wordOk wordB bytesB
 simp only [List.map_map, List.all_map, List.all_eq_true]
 intro z _
 simp only [Function.comp]
 unfold letter
 split
 ·rfl
 ·split <;> rfl
def tentP (h : Rt) : Nat → Pt := fun i => if i = 0 then ((0, 1), (0, 1)) else if i = 1 then ((1, 2), h) else ((1, 1), (0, 1))
theorem spec_tent (h : Rt) : spec_knTent h = some (tab 3 (tentP h)) := rfl
theorem impl_tent (h : Rt) : impl_tentMap h = some (tab 3 (tentP h)) := rfl
def tentQ (h : Rt) (x : Rt) : Option Rt := if less (1, 2) x then onQ ((1, 2), h) ((1, 1), (0, 1)) x else onQ ((0, 1), (0, 1)) ((1, 2), h) x
def tentV (h : Rt) : Nat → Option Rt
 | 0 => some (1, 2)
 | k + 1 => (tentV h k).bind (tentQ h)
def hgt (k : Nat) : Rt := (lowest (k : Int) 100).1
def tentC (k : Nat) : Bool := coord (hgt k) && (lowest (k : Int) 100).2 && strictB 3 (tentP (hgt k)) && (lapsT 3 (tentP (hgt k)) == [(0, 1, 1), (1, 2, -1)]) && (tentV (hgt k) 4).isSome && !((hgt k).1 == 0)
theorem tents_ok : (List.range 50).all (fun i => tentC (i + 51)) = true := by decide +kernel
structure TentOk (h : Rt) : Prop where
 co : coord h = true
 st : strictB 3 (tentP h) = true
 lp : lapsT 3 (tentP h) = [(0, 1, 1), (1, 2, -1)]
 v4 : (tentV h 4).isSome = true
 nz : ((h.1 == 0) = false)
theorem tent_ok {k : Nat} (h1 : 51 ≤ k) (h2 : k ≤ 100) : TentOk (hgt k) ∧ lowest (k : Int) 100 = (hgt k, true) := by
 have h := List.all_eq_true.1 tents_ok (k - 51) (List.mem_range.2 (by omega))
 rw [show k - 51 + 51 = k by omega] at h
 unfold tentC at h
 simp only [Bool.and_eq_true, beq_iff_eq, Bool.not_eq_true'] at h
 obtain ⟨⟨⟨⟨⟨a1, a2⟩, a3⟩, a4⟩, a5⟩, a6⟩ := h
 refine ⟨⟨a1, a3, a4, a5, a6⟩, ?_⟩
 unfold hgt
 rw [← a2]
theorem tent_map {h : Rt} (hc : coord h = true) : isMapT 3 (tentP h) := by
 refine ⟨fun i hi => ?_, fun i h1 h2 => ?_, rfl, rfl⟩
 ·have : i = 0 ∨ i = 1 ∨ i = 2 := by omega
  rcases this with rfl | rfl | rfl
  ·exact ⟨show coord (0, 1) = true by decide, show coord (0, 1) = true by decide⟩
  ·exact ⟨show coord (1, 2) = true by decide, hc⟩
  ·exact ⟨show coord (1, 1) = true by decide, show coord (0, 1) = true by decide⟩
 ·have : i = 1 ∨ i = 2 := by omega
  rcases this with rfl | rfl
  ·show less (0, 1) (1, 2) = true
   decide
  ·show less (1, 2) (1, 1) = true
   decide
theorem tent_at {h x : Rt} (hc : coord h = true) (hx : isUnit x = true) : atQ 3 (tentP h) x = tentQ h x := by
 have hC := Curve.of_map (tent_map hc) (by omega) (by omega)
 obtain ⟨j, hj⟩ := findJ hC hx
 rw [atQ_eq hj]
 unfold tentQ
 have hlt := hj.lt
 have : j = 0 ∨ j = 1 ∨ j = 2 := by omega
 rcases this with rfl | rfl | rfl
 ·have h0 := hj.at'
  have : less (1, 2) x = false := by
   simp only [tentP, if_true] at h0
   unfold less at h0 ⊢
   simp only [decide_eq_false_iff_not] at h0 ⊢
   have := isRat_iff.1 (uni_rat hx)
   omega
  rw [this]; rfl
 ·have h0 : less (1, 2) x = false := hj.at'
  rw [h0]; rfl
 ·have h0 : less (1, 2) x = true := hj.bef 1 (by omega)
  rw [h0]; rfl
theorem tent_v {h : Rt} (hc : coord h = true) : ∀ k, vQ 3 (tentP h) (1, 2) k = tentV h k
 | 0 => rfl
 | k + 1 => by
  have hC := Curve.of_map (tent_map hc) (by omega) (by omega)
  have hy : ∀ i, i < 3 → coord (tentP h i).2 = true := fun i hi => ((tent_map hc).1 i hi).2
  simp only [vQ, tentV]
  rw [tent_v hc k]
  cases e : tentV h k with
  | none => rfl
  | some y =>
   have hu : isUnit y = true := vQ_unit (c := (1, 2)) hC hy (by decide) (by rw [tent_v hc k, e])
   exact tent_at hc hu
theorem tent_some {h : Rt} (ht : TentOk h) {k : Nat} (hk : k ≤ 4) : vQ 3 (tentP h) (1, 2) k ≠ none := fun hn => by
 have := vQ_none hn hk
 rw [tent_v ht.co] at this
 have := ht.v4
 simp_all
noncomputable def tentW (h : Rt) (m : Nat) : ByteArray := wordB (1, 2) (tab m (fun i => vv 3 (tentP h) (1, 2) (i + 1)))
theorem tentW_size (h : Rt) (m : Nat) : (tentW h m).size = m := by unfold tentW; rw [wordB_size, tab_len]
theorem tent_uni {h : Rt} (ht : TentOk h) : spec_knLaps (tab 3 (tentP h)) = some true ∧ impl_isUnimodal (tab 3 (tentP h)) = some true :=
 kn_true (by omega) (by omega) (tent_map ht.co) ht.st ht.lp rfl
theorem tent_words {h : Rt} (ht : TentOk h) {m : Nat} (m1 : 1 ≤ m) (m2 : m ≤ 4) : spec_knWord (tab 3 (tentP h)) (m : Int) = some (tentW h m, true) ∧ impl_KneadingOf (tab 3 (tentP h)) (m : Int) = some (tentW h m, true) := by
 exact words_tab (by omega) (by omega) (tent_map ht.co) ht.lp (tent_uni ht).2 m m1 (by omega) (tent_some ht m2)
def HFound (s : ByteArray) (r : Rt × Bool) : Prop := r = ((0, 0), false) ∨ ∃ k, 51 ≤ k ∧ k ≤ 100 ∧ r = (hgt k, true) ∧ kcW 1 (ints (tentW (hgt k) s.size)) (ints s) ≤ 0
theorem height_run (s : ByteArray) (hs : wordOk s = true) (m1 : 1 ≤ s.size) (m2 : s.size ≤ 4) : ∀ j : Nat, j ≤ 50 → ∃ r : Rt × Bool, HFound s r ∧
  ((loopO (spec_HeightFor_b1 s) ((50 + j : Nat) : Int)).bind fun y5 => (Sum.elim (fun p => some p) (fun p => spec_HeightFor_k1 p)) y5) = some r ∧
  ((loopO (impl_HeightFor_b1 s) ((50 + j : Nat) : Int)).bind fun y5 => (Sum.elim (fun p => some p) (fun p => impl_HeightFor_k1 p)) y5) = some r := by
 intro j
 induction j with
 | zero =>
  intro _
  refine ⟨((0, 0), false), .inl rfl, ?_, ?_⟩
  ·rw [loopO_eq]; simp [spec_HeightFor_b1, spec_HeightFor_k1]
  ·rw [loopO_eq]; simp [impl_HeightFor_b1, impl_HeightFor_k1]
 | succ j ih =>
  intro hj
  obtain ⟨r, hr, e1, e2⟩ := ih (by omega)
  have hk1 : 51 ≤ 50 + (j + 1) := by omega
  have hk2 : 50 + (j + 1) ≤ 100 := by omega
  obtain ⟨ht, hlo⟩ := tent_ok hk1 hk2
  obtain ⟨w1, w2⟩ := tent_words ht m1 m2
  have hwo : wordOk (tentW (hgt (50 + (j + 1))) s.size) = true := wordB_ok _ _
  have hsz := tentW_size (hgt (50 + (j + 1))) s.size
  have c1 := spec_compare_words hwo hs hsz (by omega)
  have c2 := impl_compare_words hwo hs hsz (by omega)
  have l1 : spec_raMake ((50 + (j + 1) : Nat) : Int) 100 = some (hgt (50 + (j + 1)), true) := by rw [spec_raMake_eq _ _ (by omega) (by omega) (by omega) (by omega), hlo]
  have l2 : impl_lowest ((50 + (j + 1) : Nat) : Int) 100 = some (hgt (50 + (j + 1)), true) := by rw [impl_lowest_eq _ _ (by omega) (by omega) (by omega) (by omega) (by omega), hlo]
  have wk : w64 (((50 + (j + 1) : Nat) : Int) - 1) = ((50 + j : Nat) : Int) := by rw [w64_id (by omega) (by omega)]; omega
  have b1 : spec_HeightFor_b1 s ((50 + (j + 1) : Nat) : Int) = some (if kcW 1 (ints (tentW (hgt (50 + (j + 1))) s.size)) (ints s) ≤ 0 then .inr (.inl (hgt (50 + (j + 1)), true)) else .inl ((50 + j : Nat) : Int)) := by
   unfold spec_HeightFor_b1
   rw [if_pos (show decide (((50 + (j + 1) : Nat) : Int) > 50) = true from decide_eq_true (by omega))]
   simp only [l1, Option.bind_some, spec_tent, w1, if_true, c1, wk]
   by_cases h : kcW 1 (ints (tentW (hgt (50 + (j + 1))) s.size)) (ints s) ≤ 0 <;> simp [h]
  have b2 : impl_HeightFor_b1 s ((50 + (j + 1) : Nat) : Int) = some (if kcW 1 (ints (tentW (hgt (50 + (j + 1))) s.size)) (ints s) ≤ 0 then .inr (.inl (hgt (50 + (j + 1)), true)) else .inl ((50 + j : Nat) : Int)) := by
   unfold impl_HeightFor_b1
   rw [if_pos (show decide (((50 + (j + 1) : Nat) : Int) ≥ 51) = true from decide_eq_true (by omega))]
   simp only [l2, Option.bind_some, impl_tent, w2, Bool.not_true, Bool.false_eq_true, if_false, c2, wk]
   by_cases h : kcW 1 (ints (tentW (hgt (50 + (j + 1))) s.size)) (ints s) ≤ 0 <;> simp [h]
  rw [loopO_eq (spec_HeightFor_b1 s), loopO_eq (impl_HeightFor_b1 s), b1, b2]
  by_cases h : kcW 1 (ints (tentW (hgt (50 + (j + 1))) s.size)) (ints s) ≤ 0
  ·rw [if_pos h]
   exact ⟨(hgt (50 + (j + 1)), true), .inr ⟨_, hk1, hk2, rfl, h⟩, rfl, rfl⟩
  ·rw [if_neg h]
   exact ⟨r, hr, e1, e2⟩
theorem both_HeightFor (s : ByteArray) (hs : s.size ≤ 1048576) : ∃ r : Rt × Bool, spec_HeightFor s = some r ∧ impl_HeightFor s = some r ∧ (r = ((0, 0), false) ∨ (wordOk s = true ∧ 1 ≤ s.size ∧ s.size ≤ 4 ∧ HFound s r)) := by
 unfold spec_HeightFor impl_HeightFor
 rw [show (ByteArray.mk #[76, 67, 82]) = lcr from rfl, spec_knGood_eq s hs, impl_isKneadingWord_eq s hs]
 simp only [Option.bind_some]
 cases hg : (inB 1 30 (s.size : Int) && wordOk s)
 ·exact ⟨_, rfl, rfl, .inl rfl⟩
 ·simp only [Bool.and_eq_true] at hg
  by_cases h4 : (s.size : Int) > 4
  ·refine ⟨((0, 0), false), ?_, ?_, .inl rfl⟩ <;> simp [h4]
  ·obtain ⟨m1, m2⟩ := inB_iff.1 hg.1
   obtain ⟨r, h1, h2, h3⟩ := height_run s hg.2 (by omega) (by omega) 50 (by omega)
   refine ⟨r, ?_, ?_, .inr ⟨hg.2, by omega, by omega, h1⟩⟩
   ·rw [if_neg (by simpa using h4)]; exact h2
   ·rw [if_neg (by simpa using h4)]; exact h3
end Go.PV

set_option linter.all false
namespace Go.PV
def flatP (xs : List Pt) (n : Nat) : Prop := ∃ i a b, 0 < i ∧ i < n ∧ xs[i - 1]? = some a ∧ xs[i]? = some b ∧ a.2 = b.2
end Go.PV

/-
 Plain laws: plateaus.
 Conditions: none.
-/
set_option linter.all false
namespace Go.PV
def markV (n : Nat) (k : Int) : List Pt := marks 4 (fun c => ((c, c + 1), (c + 1 + 1, c + 1 + 1 + 1))) n k
end Go.PV

/-
 Plain laws: orbits of lifts.
 Conditions: none.
-/
set_option linter.all false
namespace Go.PV
section
variable {n : Nat} {p : Nat → Pt} {x : Rt}
noncomputable def orbQ (n : Nat) (p : Nat → Pt) (x : Rt) : Nat → Option Rt
 | 0 => some x
 | k + 1 => (orbQ n p x k).bind fun y => if near y = true then liftQ n p y else none
noncomputable def orb (n : Nat) (p : Nat → Pt) (x : Rt) (k : Nat) : Rt := (orbQ n p x k).getD (0, 0)
open Classical in
noncomputable def runR (n : Nat) (p : Nat → Pt) (x : Rt) (m : Nat) : List Rt × Bool := if (orbQ n p x m).isSome = true then (tab (m + 1) (orb n p x), true) else ([], false)
end
def turnB (r : Rt) : Bool := near r && decide (r.2 ≤ 6)
end Go.PV

/-
 Plain laws: orbits of lifts, handed back.
 Conditions: none.
-/
set_option linter.all false
namespace Go.PV
end Go.PV

/-
 Plain laws: how far a lift's points are moved.
 Conditions: none.
-/
set_option linter.all false
namespace Go.PV
def dispF (p : Nat → Pt) (i : Nat) : Rt := (subQ (p i).2 (p i).1).getD (0, 0)
section
variable {n : Nat} {p : Nat → Pt}
end
end Go.PV

/-
 Plain laws: values of lifts keep their order.
 Conditions: none.
-/
set_option linter.all false
namespace Go.PV
theorem val_inj {a b : Rt} (ha : isRat a = true) (hb : isRat b = true) (h : val a = val b) : a = b := by
 have a2 := (isRat_iff.1 ha).1
 have b2 := (isRat_iff.1 hb).1
 have e1 := val_mul (r := a) (by omega)
 have e2 := val_mul (r := b) (by omega)
 refine cmp_same ha hb ?_
 have : ((a.1 * b.2 : Int) : Rat) = ((b.1 * a.2 : Int) : Rat) := by
  rw [Rat.intCast_mul, Rat.intCast_mul, ← e1, ← e2, h]; grind
 exact_mod_cast this
section
variable {n : Nat} {p : Nat → Pt}
theorem rt_pos {r : Rt} (h : isRat r = true) : 0 < r.2 := by have := (isRat_iff.1 h).1; omega
theorem Curve.xr (h : Curve n p) {i : Nat} (hi : i < n) : isRat (p i).1 = true := coord_rat (h.x i hi)
theorem Curve.yr (h : Curve n p) {i : Nat} (hi : i < n) : isRat (p i).2 = true := (h.y i hi).1
theorem Curve.xlt (h : Curve n p) : ∀ {i j : Nat}, i < j → j < n → val (p i).1 < val (p j).1 := by
 intro i j hij hj
 obtain ⟨k, rfl⟩ : ∃ k, j = i + 1 + k := ⟨j - (i + 1), by omega⟩
 induction k with
 | zero =>
  have := h.up (i + 1) (by omega) hj
  rw [show i + 1 - 1 = i by omega] at this
  exact (less_val (rt_pos (h.xr (by omega))) (rt_pos (h.xr hj))).1 this
 | succ k ih =>
  have h1 := ih (by omega) (by omega)
  have := h.up (i + 1 + (k + 1)) (by omega) hj
  rw [show i + 1 + (k + 1) - 1 = i + 1 + k by omega] at this
  have h2 := (less_val (rt_pos (h.xr (by omega))) (rt_pos (h.xr hj))).1 this
  grind
theorem LiftT.yle (h : LiftT n p) : ∀ {i j : Nat}, i ≤ j → j < n → val (p i).2 ≤ val (p j).2 := by
 intro i j hij hj
 obtain ⟨k, rfl⟩ : ∃ k, j = i + k := ⟨j - i, by omega⟩
 induction k with
 | zero => exact Rat.le_refl
 | succ k ih =>
  have h1 := ih (by omega) (by omega)
  have := h.mono (i + (k + 1)) (by omega) hj
  rw [show i + (k + 1) - 1 = i + k by omega] at this
  have h2 := (less_val_no (rt_pos (h.cur.yr hj)) (rt_pos (h.cur.yr (by omega)))).1 this
  exact Rat.le_trans h1 h2
structure OnP (p : Nat → Pt) (m : Nat) (x y : Rt) : Prop where
 lo : val (p m).1 ≤ val x
 hi : val x ≤ val (p (m + 1)).1
 eq : (val y - val (p m).2) * (val (p (m + 1)).1 - val (p m).1) = (val (p (m + 1)).2 - val (p m).2) * (val x - val (p m).1)
theorem onP_of (h : Curve n p) {x y : Rt} (hx : isUnit x = true) {j : Nat} (hj : AtJ n p x j) (hy : atQ n p x = some y) : j - 1 + 1 < n ∧ OnP p (j - 1) x y := by
 have hr : isRat x = true := by simp only [isUnit, Bool.and_eq_true] at hx; exact hx.1
 have hlt := hj.lt
 have hn := h.lo
 have hj1 : j - 1 + 1 < n := by omega
 refine ⟨hj1, ?_⟩
 have hu := (unit_val hr).1 hx
 have f0 : val (p 0).1 = 0 := by rw [h.fst]; show ((0 : Int) : Rat) / ((1 : Int) : Rat) = 0; grind
 have lo : val (p (j - 1)).1 ≤ val x := by
  by_cases h0 : j = 0
  ·subst h0; show val (p 0).1 ≤ val x; rw [f0]; exact hu.1
  ·have := (less_val (rt_pos (h.xr (show j - 1 < n by omega))) (rt_pos hr)).1 (hj.bef (j - 1) (by omega))
   grind
 have hi : val x ≤ val (p (j - 1 + 1)).1 := by
  have h1 := (less_val_no (rt_pos (h.xr hlt)) (rt_pos hr)).1 hj.at'
  by_cases h0 : j = 0
  ·subst h0
   have := h.xlt (i := 0) (j := 0 - 1 + 1) (by omega) hj1
   grind
  ·rw [show j - 1 + 1 = j by omega]; exact h1
 refine ⟨lo, hi, ?_⟩
 rw [atQ_eq hj] at hy
 obtain ⟨u, v, hs⟩ := h.piece hj1
 unfold onQ at hy
 obtain ⟨far, e1, hy⟩ := Option.bind_eq_some_iff.1 hy
 obtain ⟨up, e2, hy⟩ := Option.bind_eq_some_iff.1 hy
 have v1 := subQ_val hr (h.xr (show j - 1 < n by omega)) e1
 have v2 := mulQ_val hs.rs (subQ_rat e1) e2
 have v3 := addQ_val (h.yr (show j - 1 < n by omega)) (mulQ_rat e2) hy
 have v4 := subQ_val (h.yr hj1) (h.yr (show j - 1 < n by omega)) hs.up
 have v5 := subQ_val (h.xr hj1) (h.xr (show j - 1 < n by omega)) hs.far
 have v6 := divQ_val hs.ru hs.rv hs.vp hs.div
 rw [v4, v5] at v6
 rw [v3, v2, v1, ← v6]
 grind
theorem OnP.range (h : LiftT n p) {m : Nat} (hm : m + 1 < n) {x y : Rt} (hp : OnP p m x y) : val (p m).2 ≤ val y ∧ val y ≤ val (p (m + 1)).2 := by
 have hx := h.cur.xlt (show m < m + 1 by omega) hm
 have hy := h.yle (show m ≤ m + 1 by omega) hm
 obtain ⟨lo, hi, eq⟩ := hp
 have d : 0 < val (p (m + 1)).1 - val (p m).1 := by grind
 constructor
 ·refine Classical.byContradiction fun hno => ?_
  have h1 : val y - val (p m).2 < 0 := by grind
  have h2 := Rat.mul_lt_mul_of_pos_right h1 d
  have h3 := Rat.mul_nonneg (show 0 ≤ val (p (m + 1)).2 - val (p m).2 by grind) (show 0 ≤ val x - val (p m).1 by grind)
  grind
 ·refine Classical.byContradiction fun hno => ?_
  have h1 : val (p (m + 1)).2 - val (p m).2 < val y - val (p m).2 := by grind
  have h2 := Rat.mul_lt_mul_of_pos_right h1 d
  have h3 := Rat.mul_le_mul_of_nonneg_left (show val x - val (p m).1 ≤ val (p (m + 1)).1 - val (p m).1 by grind) (show 0 ≤ val (p (m + 1)).2 - val (p m).2 by grind)
  grind
theorem OnP.mono (h : LiftT n p) {m : Nat} (hm : m + 1 < n) {x y x' y' : Rt} (hp : OnP p m x y) (hp' : OnP p m x' y') (hx : val x ≤ val x') : val y ≤ val y' := by
 have d0 := h.cur.xlt (show m < m + 1 by omega) hm
 have hy := h.yle (show m ≤ m + 1 by omega) hm
 have e := hp.eq
 have e' := hp'.eq
 have d : 0 < val (p (m + 1)).1 - val (p m).1 := by grind
 refine Classical.byContradiction fun hno => ?_
 have h1 : val y' < val y := by grind
 have h2 := Rat.mul_lt_mul_of_pos_right h1 d
 have h3 := Rat.mul_le_mul_of_nonneg_left hx (show 0 ≤ val (p (m + 1)).2 - val (p m).2 by grind)
 grind
end
end Go.PV

/-
 Plain laws: characteristic polynomials.
 Conditions: none.
-/
set_option linter.all false
namespace Go.PV
def mulW (n : Nat) (A M : Nat → Nat → Int) (i j : Nat) : Int := foldN n (fun s l => w64 (s + w64 (A i l * M l j))) 0
def trW (n : Nat) (P : Nat → Nat → Int) : Int := foldN n (fun s i => w64 (s + P i i)) 0
def addD (M : Nat → Nat → Int) (c : Int) (i j : Nat) : Int := if i = j then w64 (M i j + c) else M i j
section
variable {n : Nat} {A : Nat → Nat → Int}
def chN (n : Nat) (A : Nat → Nat → Int) : Nat → (Nat → Int) × (Nat → Nat → Int)
 | 0 => (fun i => if i = n then 1 else 0, fun _ _ => 0)
 | k + 1 => (fun i => if i = n - (k + 1) then w64 (Int.tdiv (w64 (0 - trW n (mulW n A (addD (chN n A k).2 ((chN n A k).1 (n - k)))))) ((k + 1 : Nat) : Int)) else (chN n A k).1 i, mulW n A (addD (chN n A k).2 ((chN n A k).1 (n - k))))
end
def isPoly (c : List Int) : Bool := decide ((c.length : Int) ≤ 9) && (c.all (inB (-1000000) 1000000))
end Go.PV

/-
 Plain laws: lists turned round, ones.
 Conditions: none.
-/
set_option linter.all false
namespace Go.PV
section
variable {α : Type} [Inhabited α]
def revSt (xs : List α) (k : Nat) : List α := tab xs.length fun p => if p < k ∨ xs.length ≤ p + k then xs.getD (xs.length - 1 - p) default else xs.getD p default
end
theorem mul_1_0 : math_bits_Mul 1 0 = some (0, 0) := by kernel_rfl
theorem mul_1_1 : math_bits_Mul 1 1 = some (0, 1) := by kernel_rfl
theorem mul_1_2 : math_bits_Mul 1 2 = some (0, 2) := by kernel_rfl
theorem mul_1_3 : math_bits_Mul 1 3 = some (0, 3) := by kernel_rfl
theorem mul_1_4 : math_bits_Mul 1 4 = some (0, 4) := by kernel_rfl
theorem mul_1_5 : math_bits_Mul 1 5 = some (0, 5) := by kernel_rfl
theorem mul_1_6 : math_bits_Mul 1 6 = some (0, 6) := by kernel_rfl
theorem mul_1_7 : math_bits_Mul 1 7 = some (0, 7) := by kernel_rfl
theorem mul_1_8 : math_bits_Mul 1 8 = some (0, 8) := by kernel_rfl
theorem mul_one (n : Nat) (hn : n ≤ 8) : math_bits_Mul 1 (n : Int) = some (0, (n : Int)) := by
 match n, hn with
 | 0, _ => exact mul_1_0
 | 1, _ => exact mul_1_1
 | 2, _ => exact mul_1_2
 | 3, _ => exact mul_1_3
 | 4, _ => exact mul_1_4
 | 5, _ => exact mul_1_5
 | 6, _ => exact mul_1_6
 | 7, _ => exact mul_1_7
 | 8, _ => exact mul_1_8
 | n + 9, h => omega
def trimZ (c : List Int) : List Int := (c.reverse.dropWhile (· == 0)).reverse
end Go.PV

/-
 Plain laws: the end values of iterates.
 Conditions: none.
-/
set_option linter.all false
namespace Go.PV
def btw (cuts : List Rt) (a b : Rt) : List Rt := if less b a = true then (cuts.filter fun x => less b x && less x a).reverse else cuts.filter fun x => less a x && less x b
section
variable {cuts : List Rt} {a b : Rt}
end
def wayN (cuts : List Rt) (e : Nat → Rt) : Nat → List Rt
 | 0 => [e 0]
 | k + 1 => wayN cuts e k ++ btw cuts (e k) (e (k + 1)) ++ [e (k + 1)]
section
variable {n : Nat} {p : Nat → Pt}
noncomputable def valsO (n : Nat) (p : Nat → Pt) (o : Option (List Rt)) (xs : List Rt) : Option (List Rt) := xs.foldl (fun o x => o.bind fun l => (atQ n p x).map fun y => l ++ [y]) o
def RelA (o : Option (List Rt)) (k : Nat) (s : Bool × List Rt) : Prop := s.2.length = k ∧ match o with
 | some l => s = (false, l)
 | none => s.1 = true
noncomputable def nextO (n : Nat) (p : Nat → Pt) (cuts : List Rt) (m : Nat) (e : Nat → Rt) : Option (List Rt) := if (wayN cuts e (m - 1)).length ≤ 4097 then valsO n p (some []) (wayN cuts e (m - 1)) else none
end
end Go.PV

/-
 Plain laws: laps, end values and variations of iterates.
 Conditions: none.
-/
set_option linter.all false
namespace Go.PV
section
variable {n : Nat} {p : Nat → Pt}
noncomputable def itO (n : Nat) (p : Nat → Pt) (cuts : List Rt) : Nat → Option (List Rt)
 | 0 => some [(0, 1), (1, 1)]
 | k + 1 => (itO n p cuts k).bind fun l => nextO n p cuts l.length (fun i => l.getD i default)
noncomputable def itL (n : Nat) (p : Nat → Pt) (cuts : List Rt) (k : Nat) : List Rt := (itO n p cuts k).getD []
structure Ends (l : List Rt) : Prop where
 lo : 2 ≤ l.length
 hi : l.length ≤ 4097
 u : ∀ x ∈ l, isUnit x = true
theorem Ends.at {l : List Rt} (h : Ends l) {i : Nat} (hi : i < l.length) : isUnit (l.getD i default) = true := by
 refine h.u _ ?_
 simp [hi]
end
end Go.PV

/-
 Plain laws: end values of iterates.
 Conditions: none.
-/
set_option linter.all false
namespace Go.PV
end Go.PV

/-
 Plain laws: the end values of iterates go up and down by turns.
 Conditions: none.
-/
set_option linter.all false
namespace Go.PV
def tnL (σ : Nat → Int) (i : Nat) : List Nat := ((List.range i).map (· + 1)).filter fun m => σ (m - 1) != σ m
theorem tnL_succ (σ : Nat → Int) (i : Nat) : tnL σ (i + 1) = tnL σ i ++ if (σ i != σ (i + 1)) = true then [i + 1] else [] := by
 unfold tnL
 rw [List.range_succ, List.map_append, List.filter_append]
 simp only [List.map_cons, List.map_nil, List.filter_cons, List.filter_nil, Nat.add_sub_cancel]
theorem tnL_mem {σ : Nat → Int} {i m : Nat} : m ∈ tnL σ i ↔ 1 ≤ m ∧ m ≤ i ∧ σ (m - 1) ≠ σ m := by
 unfold tnL
 rw [List.mem_filter, List.mem_map]
 constructor
 ·rintro ⟨⟨k, hk, rfl⟩, h⟩
  have := List.mem_range.1 hk
  exact ⟨by omega, by omega, by simpa using h⟩
 ·rintro ⟨h1, h2, h3⟩
  exact ⟨⟨m - 1, List.mem_range.2 (by omega), by omega⟩, by simpa using h3⟩
theorem laps_starts (σ : Nat → Int) : ∀ i, (lapsN σ (i + 1)).map (fun t => t.1) = 0 :: tnL σ i ∧ ∃ L t, lapsN σ (i + 1) = L ++ [t] ∧ t.2.2 = σ i
 | 0 => ⟨rfl, [], (0, 1, σ 0), rfl, rfl⟩
 | i + 1 => by
  obtain ⟨h1, L, t, h2, h3⟩ := laps_starts σ i
  have e : lapsN σ (i + 1 + 1) = if t.2.2 = σ (i + 1) then L ++ [(t.1, i + 1 + 1, σ (i + 1))] else L ++ [t] ++ [(i + 1, i + 1 + 1, σ (i + 1))] := by
   show lapStep (lapsN σ (i + 1)) (i + 1) (σ (i + 1)) = _
   rw [h2, lapStep_app]
  rw [h2, List.map_append] at h1
  rw [tnL_succ, e, h3]
  by_cases hs : σ i = σ (i + 1)
  ·rw [if_pos hs, if_neg (by simpa using hs)]
   refine ⟨?_, L, _, rfl, rfl⟩
   rw [List.map_append, List.append_nil, ← h1]; rfl
  ·rw [if_neg hs, if_pos (by simpa using hs)]
   refine ⟨?_, L ++ [t], _, rfl, rfl⟩
   rw [List.map_append, List.map_append, h1]; rfl
def cutsT (n : Nat) (p : Nat → Pt) : List Rt := (tnL (wayOf p) (n - 2)).map fun m => (p m).1
section
variable {n : Nat} {p : Nat → Pt}
def dy (p : Nat → Pt) (m : Nat) : Rat := val (p (m + 1)).2 - val (p m).2
def Ways (n : Nat) (p : Nat → Pt) : Prop := ∀ m, m + 1 < n → (wayOf p m = 1 ∧ 0 < dy p m) ∨ (wayOf p m = -1 ∧ dy p m < 0)
theorem ways_of (h : Curve n p) (hs : strictB n p = true) : Ways n p := by
 intro m hm
 obtain ⟨u, v, hp⟩ := h.piece hm
 have v4 := subQ_val (h.yr hm) (h.yr (show m < n by omega)) hp.up
 have v5 := subQ_val (h.xr hm) (h.xr (show m < n by omega)) hp.far
 have v6 := divQ_val hp.ru hp.rv hp.vp hp.div
 have hx := h.xlt (show m < m + 1 by omega) hm
 have hne : (slopeQ (p m) (p (m + 1))).1 ≠ 0 := by
  unfold strictB slopesT at hs
  rw [List.all_eq_true] at hs
  have := hs (slopeQ (p m) (p (m + 1))) (by
   unfold tab
   exact List.mem_map.2 ⟨m, List.mem_range.2 (by omega), rfl⟩)
  simpa using this
 have hp2 := rt_pos hp.rs
 have e := val_mul hp2
 have c2 := cast_pos hp2
 have d : 0 < val v := by rw [v5]; grind
 have hy : dy p m = val u := by rw [v4]; rfl
 rw [hy, ← v6]
 unfold wayOf sg
 by_cases hpos : 0 < (slopeQ (p m) (p (m + 1))).1
 ·left
  rw [if_pos hpos]
  refine ⟨rfl, ?_⟩
  have c1 : (0 : Rat) < ((slopeQ (p m) (p (m + 1))).1 : Rat) := by exact_mod_cast hpos
  rw [← e] at c1
  have : 0 < val (slopeQ (p m) (p (m + 1))) := by
   refine Classical.byContradiction fun hno => ?_
   have := Rat.mul_le_mul_of_nonneg_right (show val (slopeQ (p m) (p (m + 1))) ≤ 0 by grind) (show (0 : Rat) ≤ ((slopeQ (p m) (p (m + 1))).2 : Rat) by grind)
   grind
  exact Rat.mul_pos this d
 ·right
  rw [if_neg hpos, if_pos (by omega)]
  refine ⟨rfl, ?_⟩
  have c1 : ((slopeQ (p m) (p (m + 1))).1 : Rat) < (0 : Rat) := by exact_mod_cast (show (slopeQ (p m) (p (m + 1))).1 < 0 by omega)
  rw [← e] at c1
  have : val (slopeQ (p m) (p (m + 1))) < 0 := by
   refine Classical.byContradiction fun hno => ?_
   have := Rat.mul_nonneg (show 0 ≤ val (slopeQ (p m) (p (m + 1))) by grind) (show (0 : Rat) ≤ ((slopeQ (p m) (p (m + 1))).2 : Rat) by grind)
   grind
  have := Rat.mul_lt_mul_of_pos_right this d
  grind
theorem on_move (h : Curve n p) {m m' : Nat} (hm : m + 1 < n) (hm' : m' + 1 < n) {x y : Rt} (ho : OnP p m' x y) (lo : val (p m).1 ≤ val x) (hi : val x ≤ val (p (m + 1)).1) : OnP p m x y := by
 have d := h.xlt (show m < m + 1 by omega) hm
 have d' := h.xlt (show m' < m' + 1 by omega) hm'
 obtain ⟨l, u, e⟩ := ho
 rcases Nat.lt_trichotomy m' m with hlt | heq | hgt
 ·have hme : m = m' + 1 := by
   refine Classical.byContradiction fun hne => ?_
   have := h.xlt (show m' + 1 < m by omega) (by omega)
   grind
  subst hme
  have ex : val x = val (p (m' + 1)).1 := by grind
  refine ⟨lo, hi, ?_⟩
  rw [ex] at e ⊢
  have : val y = val (p (m' + 1)).2 := by
   have : (val y - val (p (m' + 1)).2) * (val (p (m' + 1)).1 - val (p m').1) = 0 := by grind
   rcases Rat.mul_eq_zero.1 this with h1 | h1 <;> grind
  rw [this]; grind
 ·subst heq; exact ⟨l, u, e⟩
 ·have hme : m' = m + 1 := by
   refine Classical.byContradiction fun hne => ?_
   have := h.xlt (show m + 1 < m' by omega) (by omega)
   grind
  subst hme
  have ex : val x = val (p (m + 1)).1 := by grind
  refine ⟨lo, hi, ?_⟩
  rw [ex] at e ⊢
  have : val y = val (p (m + 1)).2 := by
   have : (val y - val (p (m + 1)).2) * (val (p (m + 1 + 1)).1 - val (p (m + 1)).1) = 0 := by grind
   rcases Rat.mul_eq_zero.1 this with h1 | h1 <;> grind
  rw [this]
theorem piece_up (h : Curve n p) {m : Nat} (hm : m + 1 < n) {a b u v : Rt} (ha : OnP p m a u) (hb : OnP p m b v) {σ : Rat} (hs : 0 < σ * dy p m) : (val a < val b → 0 < σ * (val v - val u)) ∧ (val a ≤ val b → 0 ≤ σ * (val v - val u)) := by
 have d := h.xlt (show m < m + 1 by omega) hm
 have e1 := ha.eq
 have e2 := hb.eq
 have key : σ * (val v - val u) * (val (p (m + 1)).1 - val (p m).1) = σ * dy p m * (val b - val a) := by unfold dy; grind
 constructor
 ·intro hab
  refine Classical.byContradiction fun hno => ?_
  have h1 := Rat.mul_pos hs (show 0 < val b - val a by grind)
  have h2 := Rat.mul_le_mul_of_nonneg_right (show σ * (val v - val u) ≤ 0 by grind) (show 0 ≤ val (p (m + 1)).1 - val (p m).1 by grind)
  grind
 ·intro hab
  refine Classical.byContradiction fun hno => ?_
  have h1 := Rat.mul_nonneg (show 0 ≤ σ * dy p m by grind) (show 0 ≤ val b - val a by grind)
  have h2 := Rat.mul_lt_mul_of_pos_right (show σ * (val v - val u) < 0 by grind) (show 0 < val (p (m + 1)).1 - val (p m).1 by grind)
  grind
theorem corner (h : Curve n p) {m : Nat} (hm : m + 1 < n) : OnP p m (p m).1 (p m).2 ∧ OnP p m (p (m + 1)).1 (p (m + 1)).2 := by
 have d := h.xlt (show m < m + 1 by omega) hm
 exact ⟨⟨Rat.le_refl, by grind, by grind⟩, ⟨by grind, Rat.le_refl, by grind⟩⟩
theorem climb (h : Curve n p) {σ : Rat} {i : Nat} {a u : Rt} (ha : OnP p i a u) : ∀ (k : Nat) {b v : Rt}, i + k + 1 < n → OnP p (i + k) b v → val a < val b → (∀ m, i ≤ m → m ≤ i + k → 0 < σ * dy p m) → 0 < σ * (val v - val u)
 | 0, b, v, hn, hb, hab, hs => (piece_up h hn ha hb (hs i (Nat.le_refl _) (Nat.le_refl _))).1 hab
 | k + 1, b, v, hn, hb, hab, hs => by
  have hn1 : i + k + 1 < n := by omega
  have c1 := (corner h hn1).2
  have c2 := (corner h hn).1
  have hsj := hs (i + (k + 1)) (by omega) (Nat.le_refl _)
  by_cases hlt : val a < val (p (i + k + 1)).1
  ·have h1 := climb h ha k hn1 c1 hlt (fun m h1 h2 => hs m h1 (by omega))
   have h2 := (piece_up h hn c2 hb hsj).2 hb.lo
   rw [show i + (k + 1) = i + k + 1 by omega] at h2
   grind
  ·have hk : val a ≤ val (p (i + 1)).1 := ha.hi
   have hx : val (p (i + 1)).1 ≤ val (p (i + k + 1)).1 := by
    by_cases h0 : k = 0
    ·subst h0; exact Rat.le_refl
    ·have := h.xlt (show i + 1 < i + k + 1 by omega) (by omega); grind
   have hx2 := h.xlt (show i + (k + 1) < i + (k + 1) + 1 by omega) hn
   rw [show i + (k + 1) = i + k + 1 by omega] at hx2 hb hsj
   have ho := on_move h (m := i + k + 1) (by omega) (by omega) ha (by grind) (by grind)
   exact (piece_up h (by omega) ho hb hsj).1 hab
theorem unit_rat {x : Rt} (h : isUnit x = true) : isRat x = true := by simp only [isUnit, Bool.and_eq_true] at h; exact h.1
theorem left_of (h : Curve n p) {b : Rt} (hb : isUnit b = true) (h0 : 0 < val b) : ∃ j, j + 1 < n ∧ val (p j).1 < val b ∧ val b ≤ val (p (j + 1)).1 := by
 obtain ⟨j, hj⟩ := findJ h hb
 have hr := unit_rat hb
 have f0 : val (p 0).1 = 0 := by rw [h.fst]; show ((0 : Int) : Rat) / ((1 : Int) : Rat) = 0; grind
 have hi := (less_val_no (rt_pos (h.xr hj.lt)) (rt_pos hr)).1 hj.at'
 cases j with
 | zero => rw [f0] at hi; grind
 | succ j =>
  have hlt := hj.lt
  exact ⟨j, hlt, (less_val (rt_pos (h.xr (by omega))) (rt_pos hr)).1 (hj.bef j (by omega)), hi⟩
theorem right_of (h : Curve n p) {a : Rt} (ha : isUnit a = true) (h1 : val a < 1) : ∃ i, i + 1 < n ∧ val (p i).1 ≤ val a ∧ val a < val (p (i + 1)).1 := by
 obtain ⟨j, hj⟩ := findJ h ha
 have hr := unit_rat ha
 have hlt := hj.lt
 have hn := h.lo
 have f0 : val (p 0).1 = 0 := by rw [h.fst]; show ((0 : Int) : Rat) / ((1 : Int) : Rat) = 0; grind
 have f1 : val (p (n - 1)).1 = 1 := by rw [h.lst]; show ((1 : Int) : Rat) / ((1 : Int) : Rat) = 1; grind
 have hu := (unit_val hr).1 ha
 have hi := (less_val_no (rt_pos (h.xr hj.lt)) (rt_pos hr)).1 hj.at'
 by_cases he : val a = val (p j).1
 ·have hjn : j + 1 < n := by
   refine Classical.byContradiction fun hno => ?_
   have : j = n - 1 := by omega
   rw [this, f1] at he; grind
  exact ⟨j, hjn, by grind, by have := h.xlt (show j < j + 1 by omega) hjn; grind⟩
 ·cases j with
  | zero => rw [f0] at hi he; grind
  | succ j => exact ⟨j, hlt, by have := (less_val (rt_pos (h.xr (by omega))) (rt_pos hr)).1 (hj.bef j (by omega)); grind, by grind⟩
def NoCut (cuts : List Rt) (a b : Rt) : Prop := ∀ c ∈ cuts, ¬ (val a < val c ∧ val c < val b)
theorem way_pos (hw : Ways n p) {m : Nat} (hm : m + 1 < n) : 0 < ((wayOf p m : Int) : Rat) * dy p m := by
 rcases hw m hm with ⟨e, d⟩ | ⟨e, d⟩
 ·rw [e]; grind
 ·rw [e]; grind
theorem one_way (h : Curve n p) (hw : Ways n p) {a b u v : Rt} {ma mb i j : Nat} (ha : isUnit a = true) (hb : isUnit b = true) (hma : ma + 1 < n) (hmb : mb + 1 < n) (oa : OnP p ma a u) (ob : OnP p mb b v) (hab : val a < val b) (hno : NoCut (cutsT n p) a b)
  (hi : i + 1 < n) (i1 : val (p i).1 ≤ val a) (i2 : val a < val (p (i + 1)).1) (hj : j + 1 < n) (j1 : val (p j).1 < val b) (j2 : val b ≤ val (p (j + 1)).1) : 0 < ((wayOf p i : Int) : Rat) * (val v - val u) ∧ 0 < ((wayOf p j : Int) : Rat) * (val v - val u) := by
 have hij : i ≤ j := by
  refine Classical.byContradiction fun hn => ?_
  by_cases he : j + 1 = i
  ·rw [he] at j2; grind
  ·have := h.xlt (show j + 1 < i by omega) (by omega); grind
 obtain ⟨k, rfl⟩ : ∃ k, j = i + k := ⟨j - i, by omega⟩
 have hsame : ∀ m, m ≤ k → wayOf p (i + m) = wayOf p i := by
  intro m
  induction m with
  | zero => intro _; rfl
  | succ m ih =>
   intro hm
   rw [← ih (by omega)]
   refine Classical.byContradiction fun hne => ?_
   have hc : (p (i + (m + 1))).1 ∈ cutsT n p := List.mem_map.2 ⟨i + (m + 1), tnL_mem.2 ⟨by omega, by omega, by rw [show i + (m + 1) - 1 = i + m by omega]; exact fun he => hne he.symm⟩, rfl⟩
   have c1 : val a < val (p (i + (m + 1))).1 := by
    by_cases h0 : m = 0
    ·subst h0; exact i2
    ·have := h.xlt (show i + 1 < i + (m + 1) by omega) (by omega); grind
   have c2 : val (p (i + (m + 1))).1 < val b := by
    by_cases h0 : m + 1 = k
    ·rw [h0]; exact j1
    ·have := h.xlt (show i + (m + 1) < i + k by omega) (by omega); grind
   exact hno _ hc ⟨c1, c2⟩
 have oa' := on_move h hi hma oa i1 (by grind)
 have ob' := on_move h hj hmb ob (by grind) j2
 have key := climb h (σ := ((wayOf p i : Int) : Rat)) oa' k hj ob' hab (fun m h1 h2 => by
  obtain ⟨q, rfl⟩ : ∃ q, m = i + q := ⟨m - i, by omega⟩
  rw [← hsame q (by omega)]
  exact way_pos hw (by omega))
 exact ⟨key, by rw [hsame k (Nat.le_refl _)]; exact key⟩
end
end Go.PV

/-
 Plain laws: the way through the cuts, and the values on it.
 Conditions: none.
-/
set_option linter.all false
namespace Go.PV
inductive Gd (S : Rt → Rt → Prop) (T : Rt → Rt → Rt → Prop) : List Rt → Prop
 | one (x : Rt) : Gd S T [x]
 | two (x y : Rt) : S x y → Gd S T [x, y]
 | more (W : List Rt) (x y z : Rt) : Gd S T (W ++ [x, y]) → S y z → T x y z → Gd S T (W ++ [x, y, z])
def Ix (S : Rt → Rt → Prop) (T : Rt → Rt → Rt → Prop) (l : List Rt) : Prop :=
 (∀ i, i + 1 < l.length → S (l.getD i default) (l.getD (i + 1) default)) ∧ ∀ i, i + 2 < l.length → T (l.getD i default) (l.getD (i + 1) default) (l.getD (i + 2) default)
theorem getD_left {l r : List Rt} {i : Nat} (h : i < l.length) : (l ++ r).getD i default = l.getD i default := by
 rw [List.getD_eq_getElem?_getD, List.getD_eq_getElem?_getD, List.getElem?_append_left h]
theorem getD_right {l r : List Rt} (i : Nat) : (l ++ r).getD (l.length + i) default = r.getD i default := by
 rw [List.getD_eq_getElem?_getD, List.getD_eq_getElem?_getD, List.getElem?_append_right (by omega), Nat.add_sub_cancel_left]
theorem Gd.ix {S : Rt → Rt → Prop} {T : Rt → Rt → Rt → Prop} {l : List Rt} (h : Gd S T l) : Ix S T l := by
 induction h with
 | one x => exact ⟨fun i hi => by simp at hi, fun i hi => by simp at hi⟩
 | two x y hs =>
  refine ⟨fun i hi => ?_, fun i hi => by simp at hi; omega⟩
  simp at hi
  have : i = 0 := by omega
  subst this
  exact hs
 | more W x y z _ hs ht ih =>
  obtain ⟨h1, h2⟩ := ih
  have e : W ++ [x, y, z] = (W ++ [x, y]) ++ [z] := by simp
  have gx : (W ++ [x, y, z]).getD W.length default = x := getD_right 0
  have gy : (W ++ [x, y, z]).getD (W.length + 1) default = y := getD_right 1
  have gz : (W ++ [x, y, z]).getD (W.length + 2) default = z := getD_right 2
  have gl : ∀ i, i < W.length + 2 → (W ++ [x, y, z]).getD i default = (W ++ [x, y]).getD i default := fun i hi => by rw [e]; exact getD_left (by simp; omega)
  refine ⟨fun i hi => ?_, fun i hi => ?_⟩
  ·simp at hi
   by_cases hl : i = W.length + 1
   ·subst hl; rw [gy, gz]; exact hs
   ·rw [gl i (by omega), gl (i + 1) (by omega)]; exact h1 i (by simp; omega)
  ·simp at hi
   by_cases hl : i = W.length
   ·subst hl; rw [gx, gy, gz]; exact ht
   ·rw [gl i (by omega), gl (i + 1) (by omega), gl (i + 2) (by omega)]; exact h2 i (by simp; omega)
def Lt (ρ : Rat) (a b : Rt) : Prop := 0 < ρ * (val b - val a)
theorem Lt.trans {ρ : Rat} {a b c : Rt} (h1 : Lt ρ a b) (h2 : Lt ρ b c) : Lt ρ a c := by unfold Lt at *; grind
def Tu (u a b : Rt) : Prop := (val a < val u ∧ val a < val b) ∨ (val u < val a ∧ val b < val a)
section
variable {cuts : List Rt}
def Seg (cuts : List Rt) (a b : Rt) : Prop := (val a < val b ∧ NoCut cuts a b) ∨ (val b < val a ∧ NoCut cuts b a)
def Tri (cuts : List Rt) (u a b : Rt) : Prop := Tu u a b ∨ (a ∈ cuts ∧ ((val u < val a ∧ val a < val b) ∨ (val b < val a ∧ val a < val u)))
end
section
variable {n : Nat} {p : Nat → Pt}
theorem seg_vals (h : Curve n p) (hw : Ways n p) {a b u v : Rt} (ha : isUnit a = true) (hb : isUnit b = true) (hu : atQ n p a = some u) (hv : atQ n p b = some v) (hs : Seg (cutsT n p) a b) :
  (val a < val b → (∀ i, i + 1 < n → val (p i).1 ≤ val a → val a < val (p (i + 1)).1 → 0 < ((wayOf p i : Int) : Rat) * (val v - val u)) ∧ (∀ j, j + 1 < n → val (p j).1 < val b → val b ≤ val (p (j + 1)).1 → 0 < ((wayOf p j : Int) : Rat) * (val v - val u))) ∧
  (val b < val a → (∀ i, i + 1 < n → val (p i).1 ≤ val b → val b < val (p (i + 1)).1 → 0 < ((wayOf p i : Int) : Rat) * (val u - val v)) ∧ (∀ j, j + 1 < n → val (p j).1 < val a → val a ≤ val (p (j + 1)).1 → 0 < ((wayOf p j : Int) : Rat) * (val u - val v))) := by
 have ra := (unit_val (unit_rat ha)).1 ha
 have rb := (unit_val (unit_rat hb)).1 hb
 obtain ⟨ka, hka⟩ := findJ h ha
 obtain ⟨kb, hkb⟩ := findJ h hb
 obtain ⟨a1, a2⟩ := onP_of h ha hka hu
 obtain ⟨b1, b2⟩ := onP_of h hb hkb hv
 constructor
 ·intro hab
  have hno : NoCut (cutsT n p) a b := by
   rcases hs with ⟨_, hn⟩ | ⟨hlt, _⟩
   ·exact hn
   ·grind
  obtain ⟨j0, hj0, j1, j2⟩ := left_of h hb (by grind)
  obtain ⟨i0, hi0, i1, i2⟩ := right_of h ha (by grind)
  exact ⟨fun i hi x1 x2 => (one_way h hw ha hb a1 b1 a2 b2 hab hno hi x1 x2 hj0 j1 j2).1, fun j hj x1 x2 => (one_way h hw ha hb a1 b1 a2 b2 hab hno hi0 i1 i2 hj x1 x2).2⟩
 ·intro hab
  have hno : NoCut (cutsT n p) b a := by
   rcases hs with ⟨hlt, _⟩ | ⟨_, hn⟩
   ·grind
   ·exact hn
  obtain ⟨j0, hj0, j1, j2⟩ := left_of h ha (by grind)
  obtain ⟨i0, hi0, i1, i2⟩ := right_of h hb (by grind)
  exact ⟨fun i hi x1 x2 => (one_way h hw hb ha b1 a1 b2 a2 hab hno hi x1 x2 hj0 j1 j2).1, fun j hj x1 x2 => (one_way h hw hb ha b1 a1 b2 a2 hab hno hi0 i1 i2 hj x1 x2).2⟩
def Alt (l : List Rt) : Prop := (∀ i, i + 1 < l.length → val (l.getD i default) ≠ val (l.getD (i + 1) default)) ∧ ∀ i, i + 2 < l.length → Tu (l.getD i default) (l.getD (i + 1) default) (l.getD (i + 2) default)
end
end Go.PV

/-
 Plain laws: vectors of walks, bounds of growth.
 Conditions: none.
-/
set_option linter.all false
namespace Go.PV
def vk (G : Nat → Nat → Int) (n : Nat) : Nat → Nat → Int
 | 0 => fun _ => 1
 | k + 1 => fun j => dotN (G j) (vk G n k) n + vk G n k j
def mxg (G : Nat → Nat → Int) (n : Nat) : Nat → Nat
 | 0 => 0
 | k + 1 => if mxg G n k = k ∧ isVec (tab n (vk G n (k + 1))) = true then k + 1 else mxg G n k
section
variable {n : Nat} {G : Nat → Nat → Int}
def bestT (G : Nat → Nat → Int) (n : Nat) : (Int × Int) × (Int × Int) × Int × Bool := (mnN (ratN G (vk G n (mxg G n 20)) n) n, mxN (ratN G (vk G n (mxg G n 20)) n) n, ((mxg G n 20 : Nat) : Int), true)
end
end Go.PV

/-
 Plain laws: what draws from bytes always comes to an end.
 Conditions: none.
-/
set_option linter.all false
namespace Go.PV
def Tot {α : Type} (o : Option α) (P : α → Prop) : Prop := ∃ r, o = some r ∧ P r
section
variable {α β : Type} {P : α → Prop} {Q : β → Prop}
theorem Tot.bind {o : Option α} {f : α → Option β} (h : Tot o P) (k : ∀ r, P r → Tot (f r) Q) : Tot (o.bind f) Q := by
 obtain ⟨r, rfl, hr⟩ := h
 exact k r hr
theorem Tot.mono {P' : α → Prop} {o : Option α} (h : Tot o P) (k : ∀ r, P r → P' r) : Tot o P' := by
 obtain ⟨r, h, hr⟩ := h
 exact ⟨r, h, k r hr⟩
theorem Tot.ret {r : α} (h : P r) : Tot (some r) P := ⟨r, rfl, h⟩
theorem Tot.ite {c : Bool} {x y : Option α} (h1 : c = true → Tot x P) (h2 : c = false → Tot y P) : Tot (if c = true then x else y) P := by
 cases c
 ·exact h2 rfl
 ·exact h1 rfl
theorem Tot.guard {p : Prop} [Decidable p] {f : Unit → Option α} (h : p) (k : Tot (f ()) P) : Tot ((guardO p).bind f) P := by
 rw [guardO_bind_pos h]; exact k
def Lp {X Y : Type} (I : X → Prop) (R : Y → Prop) : X ⊕ Y → Prop
 | .inl x => I x
 | .inr y => R y
theorem Tot.inl {X Y : Type} {I : X → Prop} {R : Y → Prop} {x : X} (h : I x) : Tot (some (Sum.inl x)) (Lp I R) := ⟨_, rfl, h⟩
theorem Tot.inr {X Y : Type} {I : X → Prop} {R : Y → Prop} {y : Y} (h : R y) : Tot (some (Sum.inr y)) (Lp I R) := ⟨_, rfl, h⟩
theorem Tot.loop {X Y : Type} {body : X → Option (X ⊕ Y)} {R : Y → Prop} (Inv : X → Prop) (μ : X → Nat)
  (h : ∀ x, Inv x → Tot (body x) (Lp (fun x' => Inv x' ∧ μ x' < μ x) R)) (x0 : X) (h0 : Inv x0) : Tot (loopO body x0) R := by
 obtain ⟨y, h1, h2⟩ := loop_run (body := body) Inv μ R (fun x hx => by
  obtain ⟨r, e, hr⟩ := h x hx
  cases r with
  | inl x' => exact .inl ⟨x', e, hr.1, hr.2⟩
  | inr y => exact .inr ⟨y, e, hr⟩) x0 h0
 exact ⟨y, h1, h2⟩
end
theorem Tot.idx {α β : Type} {xs : List α} {i : Int} {f : α → Option β} {Q : β → Prop} (h0 : 0 ≤ i) (h1 : i < xs.length) (k : ∀ x, x ∈ xs → Tot (f x) Q) : Tot ((idxO xs i).bind f) Q := by
 obtain ⟨m, rfl⟩ := Int.eq_ofNat_of_zero_le h0
 have hm : m < xs.length := by omega
 rw [idxO_lt hm, Option.bind_some]
 exact k _ (List.getElem_mem hm)
abbrev Cur := List Int × Int × Int
def Bytes (l : List Int) : Prop := l.length ≤ 9223372036854775807 ∧ ∀ b ∈ l, 0 ≤ b ∧ b ≤ 255
def Ck (B : Nat) (c : Cur) : Prop := Bytes c.1 ∧ 0 ≤ c.2.1 ∧ c.2.1 ≤ B
theorem Ck.mono {B B' : Nat} {c : Cur} (h : Ck B c) (hb : B ≤ B') : Ck B' c := ⟨h.1, h.2.1, by have := h.2.2; omega⟩
theorem ck0 {l : List Int} (h : Bytes l) : Ck 0 (l, 0, 0) := ⟨h, by simp, by simp⟩
theorem wrapU64 (n : Int) : IntKind.u64.wrap n = n % 18446744073709551616 := by simp [IntKind.wrap, IntKind.bits, IntKind.signed]
theorem wrap_i64 (n : Int) : IntKind.wrap .i64 n = w64 n := rfl
theorem iand_255 (x : Int) : 0 ≤ iand .u64 x 255 ∧ iand .u64 x 255 ≤ 255 := by
 unfold iand
 have h : ((BitVec.ofInt (IntKind.bits .u64) x) &&& (BitVec.ofInt (IntKind.bits .u64) 255)).toNat ≤ 255 := by
  rw [BitVec.toNat_and]
  have : (BitVec.ofInt (IntKind.bits .u64) 255).toNat = 255 := by decide
  rw [this]
  exact Nat.and_le_right
 rw [wrapU64, Int.emod_eq_of_lt (by omega) (by omega)]
 omega
theorem next_ok {B : Nat} {c : Cur} (h : Ck B c) (hB : B ≤ 1152921504606846976) : Tot (spec_l1Cur_next c) fun r => (0 ≤ r.1 ∧ r.1 ≤ 255) ∧ Ck (B + 1) r.2 := by
 obtain ⟨⟨hl, hb⟩, h0, h1⟩ := h
 have hw : w64 (c.2.1 + 1) = c.2.1 + 1 := w64_id (by omega) (by omega)
 have key : ∀ x : Int, 0 ≤ x → x ≤ 255 → Tot (spec_l1Cur_next_k1 c x) fun r => (0 ≤ r.1 ∧ r.1 ≤ 255) ∧ Ck (B + 1) r.2 := by
  intro x hx0 hx1
  unfold spec_l1Cur_next_k1
  rw [hw]
  refine Tot.ite (fun _ => Tot.ret ⟨⟨hx0, hx1⟩, ⟨hl, hb⟩, by show 0 ≤ c.2.1 + 1; omega, by show c.2.1 + 1 ≤ _; omega⟩) (fun _ => Tot.ret ⟨?_, ⟨hl, hb⟩, by show 0 ≤ c.2.1 + 1; omega, by show c.2.1 + 1 ≤ _; omega⟩)
  rw [wrap_i64]
  obtain ⟨a, b⟩ := iand_255 (ishr .u64 (IntKind.wrap .u64 ((IntKind.wrap .u64 ((IntKind.wrap .u64 (c.2.2 * 6364136223846793005)) + (IntKind.wrap .u64 x))) + 1442695040888963407)) 40)
  show 0 ≤ w64 _ ∧ w64 _ ≤ 255
  rw [w64_id (by omega) (by omega)]
  exact ⟨a, b⟩
 unfold spec_l1Cur_next
 refine Tot.ite (fun hc => ?_) (fun _ => key 0 (by omega) (by omega))
 have hlt : c.2.1 < (c.1.length : Int) := of_decide_eq_true hc
 refine Tot.idx h0 hlt fun x hx => ?_
 have := hb x hx
 rw [wrap_i64, w64_id (by omega) (by omega)]
 exact key x this.1 this.2
theorem tmod_rng {x n : Int} (hx : 0 ≤ x) (hn : 1 ≤ n) : 0 ≤ Int.tmod x n ∧ Int.tmod x n < n := by
 obtain ⟨a, rfl⟩ := Int.eq_ofNat_of_zero_le hx
 obtain ⟨b, rfl⟩ := Int.eq_ofNat_of_zero_le (show 0 ≤ n by omega)
 have : Int.tmod (a : Int) (b : Int) = ((a % b : Nat) : Int) := rfl
 rw [this]
 have := Nat.mod_lt a (show b > 0 by omega)
 omega
theorem pick_ok {B : Nat} {c : Cur} (h : Ck B c) (hB : B ≤ 1000000000000000000) (n : Int) : Tot (spec_l1Cur_pick c n) fun r => (0 ≤ r.1 ∧ (1 ≤ n → r.1 < n)) ∧ Ck (B + 2) r.2 := by
 unfold spec_l1Cur_pick
 refine Tot.ite (fun hc => Tot.ret ⟨⟨by show (0 : Int) ≤ 0; omega, fun h => by show (0 : Int) < n; omega⟩, h.mono (by omega)⟩) (fun hc => ?_)
 have hn : ¬ n ≤ 1 := of_decide_eq_false hc
 refine (next_ok h (by omega)).bind fun v2 ⟨⟨h1, h2⟩, h3⟩ => ?_
 refine Tot.ite (fun _ => ?_) (fun _ => ?_)
 ·refine (next_ok h3 (by omega)).bind fun v6 ⟨⟨h4, h5⟩, h6⟩ => ?_
  unfold spec_l1Cur_pick_k1
  refine Tot.guard (by omega) (Tot.ret ?_)
  have e : w64 ((w64 (v2.1 * 256)) + v6.1) = v2.1 * 256 + v6.1 := by rw [w64_id (n := v2.1 * 256) (by omega) (by omega), w64_id (by omega) (by omega)]
  have := tmod_rng (x := v2.1 * 256 + v6.1) (n := n) (by omega) (by omega)
  simp only [e]
  exact ⟨⟨this.1, fun _ => this.2⟩, h6⟩
 ·unfold spec_l1Cur_pick_k1
  refine Tot.guard (by omega) (Tot.ret ?_)
  have := tmod_rng (x := v2.1) (n := n) (by omega) (by omega)
  exact ⟨⟨this.1, fun _ => this.2⟩, h3.mono (by omega)⟩
theorem one_ok {B : Nat} {c : Cur} (h : Ck B c) (hB : B ≤ 1000000000000000000) (n : Int) : Tot (spec_l1Cur_one c n) fun r => Ck (B + 2) r.2 := by
 unfold spec_l1Cur_one
 exact (pick_ok h hB n).bind fun v h => Tot.ret h.2
theorem among_ok {B : Nat} {c : Cur} (h : Ck B c) (hB : B ≤ 1000000000000000000) (l : List Int) (hl : l ≠ []) : Tot (spec_l1Cur_among c l) fun r => r.1 ∈ l ∧ Ck (B + 2) r.2 := by
 unfold spec_l1Cur_among
 refine (pick_ok h hB _).bind fun v ⟨⟨h1, h2⟩, h3⟩ => ?_
 have : 0 < l.length := List.length_pos_iff.2 hl
 refine Tot.idx h1 (h2 (by omega)) fun x hx => Tot.ret ⟨hx, h3⟩
end Go.PV
namespace Go.PV
def cur4 {α : Type} (x : List Int × Int × Int × α) : Cur := (x.1, x.2.1, x.2.2.1)
def En (l : List Int) : Prop := ∀ x ∈ l, 0 ≤ x ∧ x ≤ 9
theorem En.set {l : List Int} {i : Nat} {x : Int} (h : En l) (h0 : 0 ≤ x) (h9 : x ≤ 9) : En (l.set i x) := fun y hy => by
 rcases List.mem_or_eq_of_mem_set hy with h' | rfl
 ·exact h y h'
 ·exact ⟨h0, h9⟩
def Sq (n : Int) (g : List (List Int)) : Prop := (g.length : Int) = n ∧ ∀ row ∈ g, (row.length : Int) = n ∧ En row
theorem mem_set {α : Type} {xs : List α} {i : Nat} {a x : α} (h : x ∈ xs.set i a) : x ∈ xs ∨ x = a := List.mem_or_eq_of_mem_set h
theorem Sq.set {n : Int} {g : List (List Int)} (h : Sq n g) {i : Nat} {row : List Int} (hr : (row.length : Int) = n ∧ En row) : Sq n (g.set i row) := ⟨by rw [List.length_set]; exact h.1, fun r hr' => by
 rcases mem_set hr' with h' | rfl
 ·exact h.2 r h'
 ·exact hr⟩
def Sm (g : List (List Int)) : Prop := g.length ≤ 9 ∧ ∀ row ∈ g, row.length ≤ 9
theorem Sm.sized {g : List (List Int)} (h : Sm g) : sized g := ⟨by have := h.1; omega, fun row hr => by have := h.2 row hr; omega⟩
end Go.PV

/-
 Plain laws: what draws fractions and vectors always comes to an end.
 Conditions: none.
-/
set_option linter.all false
namespace Go.PV
theorem rat_ok {B : Nat} (hB : B ≤ 100000000) {c : Cur} (hc : Ck B c) : Tot (spec_l1Cur_rat c) fun r => isRat r.1 = true ∧ Ck (B + 12) r.2 := by
 unfold spec_l1Cur_rat
 refine (pick_ok hc (by omega) _).bind fun v1 ⟨⟨a1, a2⟩, h1⟩ => ?_
 refine (pick_ok h1 (by omega) _).bind fun v2 ⟨⟨b1, b2⟩, h2⟩ => ?_
 refine (among_ok h2 (by omega) _ (by simp)).bind fun v3 ⟨m3, h3⟩ => ?_
 refine (pick_ok h3 (by omega) _).bind fun v4 ⟨⟨d1, d2⟩, h4⟩ => ?_
 refine (pick_ok h4 (by omega) _).bind fun v5 ⟨⟨e1, e2⟩, h5⟩ => ?_
 refine (among_ok h5 (by omega) _ (by simp)).bind fun v6 ⟨m6, h6⟩ => ?_
 have a3 := a2 (by omega); have b3 := b2 (by omega); have d3 := d2 (by omega); have e3 := e2 (by omega)
 rw [w64_id (by omega) (by omega), w64_id (by omega) (by omega)] at m3 m6
 simp only [List.mem_cons, List.not_mem_nil, or_false] at m3 m6
 rw [spec_raMake_gen v3.1 v6.1 (by omega) (by omega) (by omega) (by omega) (by omega), Option.bind_some]
 unfold spec_raInt
 cases hq : lowQ v3.1 v6.1 with
 | none => exact Tot.ret ⟨isRat_one, h6⟩
 | some q => exact Tot.ret ⟨lowQ_rat hq, h6⟩
theorem anyRat_ok {B : Nat} (hB : B ≤ 100000000) {c : Cur} (hc : Ck B c) : Tot (spec_l1Cur_anyRat c) fun r => Ck (B + 18) r.2 := by
 unfold spec_l1Cur_anyRat
 refine (rat_ok hB hc).bind fun v1 ⟨_, h1⟩ => ?_
 refine (pick_ok h1 (by omega) _).bind fun v2 ⟨_, h2⟩ => ?_
 refine Tot.ite (fun _ => ?_) (fun _ => Tot.ite (fun _ => ?_) (fun _ => Tot.ite (fun _ => ?_) (fun _ => Tot.ret (h2.mono (by omega)))))
 ·exact (among_ok h2 (by omega) _ (by simp)).bind fun v ⟨_, h⟩ => Tot.ret (h.mono (by omega))
 ·exact (among_ok h2 (by omega) _ (by simp)).bind fun v ⟨_, h⟩ => Tot.ret (h.mono (by omega))
 ·exact (among_ok h2 (by omega) _ (by simp)).bind fun v ⟨_, h⟩ => (among_ok h (by omega) _ (by simp)).bind fun w ⟨_, h'⟩ => Tot.ret (h'.mono (by omega))
end Go.PV

/-
 Plain laws: what draws lifts always comes to an end.
 Conditions: none.
-/
set_option linter.all false
namespace Go.PV
def Gr (r : Rt) : Prop := isRat r = true ∧ 0 ≤ r.1 ∧ r.1 ≤ 100 ∧ 1 ≤ r.2 ∧ r.2 ≤ 100
theorem make_grid {v a : Int} (h0 : 0 ≤ v) (h1 : v ≤ a) (a1 : 1 ≤ a) (a2 : a ≤ 100) : Tot (spec_raMake v a) fun r => Gr r.1 := by
 obtain ⟨r, h⟩ := lowQ_some_nonneg (n := v) (d := a) h0 (by omega) a1 (by omega)
 rw [spec_raMake_gen v a (by omega) (by omega) (by omega) (by omega) (by omega), h.eq]
 have := h.num
 have := h.den
 have h2 : 0 ≤ r.1 := by
  by_cases hv : v = 0
  ·rw [h.zer hv]; omega
  ·have := h.pos (by omega); omega
 exact Tot.ret ⟨h.rat, h2, by show r.1 ≤ 100; omega, by show 1 ≤ r.2; omega, by show r.2 ≤ 100; omega⟩
theorem gridRat_ok {B : Nat} (hB : B ≤ 100000000) {c : Cur} (hc : Ck B c) {a : Int} (a1 : 1 ≤ a) (a2 : a ≤ 100) : Tot (spec_l1Cur_gridRat c a) fun r => Gr r.1 ∧ Ck (B + 2) r.2 := by
 unfold spec_l1Cur_gridRat
 rw [w64_id (by omega) (by omega)]
 refine (pick_ok hc (by omega) _).bind fun v1 ⟨⟨b1, b2⟩, h1⟩ => ?_
 have := b2 (by omega)
 exact (make_grid b1 (by omega) a1 a2).bind fun v2 h2 => Tot.ret ⟨h2, h1⟩
theorem raCmp_tot (a b : Rt) : ∃ r, spec_raCmp a b = some r := by
 unfold spec_raCmp spec_l1Sign
 by_cases h1 : w64 (w64 (a.1 * b.2) - w64 (b.1 * a.2)) > 0
 ·simp [h1]
 ·by_cases h2 : w64 (w64 (a.1 * b.2) - w64 (b.1 * a.2)) < 0 <;> simp [h1, h2]
theorem imPut_ok (xs : List Rt) (x : Rt) (hl : xs.length ≤ 1048576) : Tot (spec_imPut xs x) fun r => xs.length ≤ r.length ∧ r.length ≤ xs.length + 1 := by
 unfold spec_imPut
 refine Tot.bind (P := fun y : Int => 0 ≤ y ∧ y ≤ xs.length) ?_ fun y ⟨y0, y1⟩ => ?_
 ·refine Tot.loop (fun x => 0 ≤ x ∧ x ≤ (xs.length : Int)) (fun x => ((xs.length : Int) - x).toNat) (fun i ⟨i0, i1⟩ => ?_) _ ⟨by decide, by omega⟩
  unfold spec_imPut_b1
  refine Tot.bind (P := fun b => b = true → i < (xs.length : Int)) ?_ fun b hb => ?_
  ·refine Tot.ite (fun hi => ?_) (fun _ => Tot.ret fun h => by cases h)
   have hi' : i < (xs.length : Int) := of_decide_eq_true hi
   refine Tot.idx i0 hi' fun v _ => ?_
   obtain ⟨r, hr⟩ := raCmp_tot v x
   rw [hr, Option.bind_some]
   exact Tot.ret fun _ => hi'
  ·refine Tot.ite (fun h => ?_) (fun _ => Tot.inr ⟨i0, i1⟩)
   have := hb h
   have hw : w64 (i + 1) = i + 1 := w64_id (by omega) (by omega)
   rw [hw]
   exact Tot.inl ⟨⟨by omega, by omega⟩, by omega⟩
 ·unfold spec_imPut_k1
  refine Tot.bind (P := fun _ => True) ?_ fun b _ => ?_
  ·exact Tot.ite (fun hi => Tot.idx y0 (of_decide_eq_true hi) fun v _ => Tot.ret trivial) (fun _ => Tot.ret trivial)
  ·refine Tot.ite (fun _ => Tot.ret ⟨Nat.le_refl _, by omega⟩) (fun _ => ?_)
   refine Tot.guard ⟨y0, y1⟩ (Tot.guard (by simp; omega) (Tot.guard (by simp; omega) (Tot.guard (by simp; omega) (Tot.ret ⟨by simp; omega, by simp; omega⟩))))
def Gm (r : Rt) : Prop := -1000 ≤ r.1 ∧ r.1 ≤ 1000 ∧ 1 ≤ r.2 ∧ r.2 ≤ 100
end Go.PV

/-
 Plain laws: what draws maps and counts of steps always comes to an end.
 Conditions: none.
-/
set_option linter.all false
namespace Go.PV
theorem make_tot {n d : Int} (h1 : -1000 ≤ n) (h2 : n ≤ 1000) (h3 : 1 ≤ d) (h4 : d ≤ 1000) : Tot (spec_raMake n d) fun _ => True := by
 rw [spec_raMake_gen n d (by omega) (by omega) (by omega) (by omega) (by omega)]
 exact Tot.ret trivial
theorem raInt_tot (n : Int) : Tot (spec_raInt n) fun _ => True := ⟨_, rfl, trivial⟩
theorem imGrid_ok {B : Nat} (hB : B ≤ 1000000) {c : Cur} (hc : Ck B c) {a : Int} (a1 : 1 ≤ a) (a2 : a ≤ 100) : Tot (spec_l1Cur_imGrid c a) fun r => (2 ≤ r.1.length ∧ r.1.length ≤ 12) ∧ Ck (B + 300) r.2 := by
 have k1 : ∀ (B' : Nat) (x2 : List Int × Int × Int × Int), B' + 250 ≤ B + 300 → x2.2.2.2 ≤ 10 → 0 ≤ x2.2.2.2 → Ck B' (cur4 x2) → Tot (spec_l1Cur_imGrid_k1 a x2) fun r => (2 ≤ r.1.length ∧ r.1.length ≤ 12) ∧ Ck (B + 300) r.2 := by
  intro B' x2 hB' h10 h0 hc
  unfold spec_l1Cur_imGrid_k1 spec_raInt
  simp only [Option.bind_some]
  refine Tot.bind (P := fun y : List Int × Int × Int × List Rt => (2 ≤ y.2.2.2.length ∧ y.2.2.2.length ≤ 12) ∧ Ck (B' + 120) (cur4 y)) ?_ fun y ⟨⟨y2, y12⟩, yc⟩ => ?_
  ·refine Tot.loop (fun x => (2 ≤ x.2.2.2.1.length ∧ x.2.2.2.1.length ≤ 12) ∧ (0 ≤ x.2.2.2.2 ∧ x.2.2.2.2 ≤ 60) ∧ Ck (B' + 2 * x.2.2.2.2.toNat) (cur4 x)) (fun x => (60 - x.2.2.2.2).toNat) (fun x ⟨⟨xl, xh⟩, ⟨t0, t1⟩, xc⟩ => ?_) _ ⟨⟨by simp, by simp⟩, ⟨by simp, by simp⟩, by simpa [cur4] using hc⟩
   obtain ⟨c1, c2, c3, l, tr⟩ := x
   simp only [cur4] at xl xh t0 t1 xc ⊢
   unfold spec_l1Cur_imGrid_b2
   rw [w64_id (n := x2.2.2.2 + 2) (by omega) (by omega)]
   refine Tot.ite (fun hk => ?_) (fun hk => Tot.inr ⟨⟨xl, xh⟩, xc.mono (by omega)⟩)
   simp only [Bool.and_eq_true, decide_eq_true_eq] at hk
   refine (gridRat_ok (by omega) xc a1 a2).bind fun v36 ⟨_, h36⟩ => ?_
   refine (imPut_ok l v36.1 (by omega)).bind fun v37 ⟨m1, m2⟩ => Tot.inl ?_
   have hw : w64 (tr + 1) = tr + 1 := w64_id (by omega) (by omega)
   simp only [hw]
   exact ⟨⟨⟨by omega, by omega⟩, ⟨by omega, by omega⟩, Ck.mono (c := v36.2) h36 (by omega)⟩, by omega⟩
  ·unfold spec_l1Cur_imGrid_k2
   refine Tot.bind (P := fun z : List Int × Int × Int × List Pt => (2 ≤ z.2.2.2.length ∧ z.2.2.2.length ≤ 12) ∧ Ck (B' + 145) (cur4 z)) ?_ fun z ⟨z1, zc⟩ => Tot.ret ⟨z1, zc.mono (by omega)⟩
   refine Tot.loop (fun x => ((x.2.2.2.1.length : Int) = x.2.2.2.2 ∧ x.2.2.2.2 ≤ (y.2.2.2.length : Int)) ∧ Ck (B' + 120 + 2 * x.2.2.2.1.length) (cur4 x)) (fun x => ((y.2.2.2.length : Int) - x.2.2.2.2).toNat) (fun x ⟨⟨xl, xh⟩, xc⟩ => ?_) _ ⟨⟨by simp, by simp⟩, Ck.mono (c := cur4 y) yc (by simp)⟩
   obtain ⟨c1, c2, c3, l, i⟩ := x
   simp only [cur4] at xl xh xc ⊢
   unfold spec_l1Cur_imGrid_b1
   refine Tot.ite (fun hi => ?_) (fun hi => Tot.inr ?_)
   ·have hi' : i < (y.2.2.2.length : Int) := of_decide_eq_true hi
    refine Tot.idx (by omega) hi' fun v10 _ => ?_
    refine (gridRat_ok (by omega) xc a1 a2).bind fun v11 ⟨_, h11⟩ => ?_
    have hw : w64 (i + 1) = i + 1 := w64_id (by omega) (by omega)
    simp only [hw]
    exact Tot.guard (by simp; omega) (Tot.inl ⟨⟨⟨by simp; omega, by show i + 1 ≤ _; omega⟩, Ck.mono (c := v11.2) h11 (by simp; omega)⟩, by show (_ - (i + 1)).toNat < (_ - i).toNat; omega⟩)
   ·have hi' : ¬ i < (y.2.2.2.length : Int) := of_decide_eq_false hi
    exact ⟨⟨by show 2 ≤ l.length; omega, by show l.length ≤ 12; omega⟩, Ck.mono (c := (c1, c2, c3)) xc (by omega)⟩
 unfold spec_l1Cur_imGrid
 refine (among_ok hc (by omega) _ (by simp)).bind fun v1 ⟨m1, h1⟩ => ?_
 simp only [List.mem_cons, List.not_mem_nil, or_false] at m1
 refine (one_ok h1 (by omega) _).bind fun v38 h38 => ?_
 exact Tot.ite (fun _ => k1 _ _ (by omega : B + 2 + 2 + 250 ≤ B + 300) (by show (10 : Int) ≤ 10; omega) (by show (0 : Int) ≤ 10; omega) h38) (fun _ => k1 _ _ (by omega : B + 2 + 2 + 250 ≤ B + 300) (by show v1.1 ≤ 10; omega) (by show 0 ≤ v1.1; omega) h38)
theorem im_ok {B : Nat} (hB : B ≤ 100000) {c : Cur} (hc : Ck B c) : Tot (spec_l1Cur_im c) fun r => (2 ≤ r.1.length ∧ r.1.length ≤ 12) ∧ Ck (B + 320) r.2 := by
 unfold spec_l1Cur_im
 refine (among_ok hc (by omega) _ (by simp)).bind fun v1 ⟨m1, h1⟩ => ?_
 simp only [List.mem_cons, List.not_mem_nil, or_false] at m1
 refine (imGrid_ok (by omega) h1 (by omega) (by omega)).bind fun v2 ⟨l2, h2⟩ => ?_
 refine (one_ok h2 (by omega) _).bind fun v4 h4 => ?_
 unfold spec_l1Cur_im_k1
 refine Tot.ite (fun _ => ?_) (fun _ => Tot.ret ⟨l2, Ck.mono (c := v4.2) h4 (by omega)⟩)
 refine (among_ok h4 (by omega) _ (by simp)).bind fun v6 ⟨m6, h6⟩ => ?_
 simp only [List.mem_cons, List.not_mem_nil, or_false] at m6
 refine Tot.bind (P := fun y : List Pt => 2 ≤ y.length ∧ y.length ≤ 12) ?_ fun y ⟨y2, y12⟩ => ?_
 ·refine Tot.loop (fun x => (x.1.length : Int) = x.2 ∧ x.2 ≤ v6.1 + 1) (fun x => (v6.1 + 1 - x.2).toNat) (fun x ⟨xl, xh⟩ => ?_) _ ⟨by simp, by show (0 : Int) ≤ _; omega⟩
  obtain ⟨l, i⟩ := x
  simp only at xl xh ⊢
  unfold spec_l1Cur_im_b1
  refine Tot.ite (fun hi => ?_) (fun hi => Tot.inr ?_)
  ·have hi' : i ≤ v6.1 := of_decide_eq_true hi
   refine (make_tot (by omega) (by omega) (by omega) (by omega)).bind fun v15 _ => ?_
   refine (raInt_tot _).bind fun v16 _ => ?_
   have hw : w64 (i + 1) = i + 1 := w64_id (by omega) (by omega)
   simp only [hw]
   exact Tot.guard (by simp; omega) (Tot.inl ⟨⟨by simp; omega, by show i + 1 ≤ _; omega⟩, by show (_ - (i + 1)).toNat < (_ - i).toNat; omega⟩)
  ·have hi' : ¬ i ≤ v6.1 := of_decide_eq_false hi
   exact ⟨by show 2 ≤ l.length; omega, by show l.length ≤ 12; omega⟩
 ·unfold spec_l1Cur_im_k2 spec_l1Cur_im_k1
  refine (one_ok h6 (by omega) _).bind fun v8 h8 => ?_
  refine Tot.ite (fun _ => ?_) (fun _ => Tot.ret ⟨⟨y2, y12⟩, Ck.mono (c := v8.2) h8 (by omega)⟩)
  refine (gridRat_ok (by omega) h8 (by omega) (by omega)).bind fun v10 ⟨_, h10⟩ => ?_
  exact Tot.idx (by omega) (by omega) fun v11 _ => Tot.ret ⟨by show 2 ≤ (y.set _ _).length ∧ (y.set _ _).length ≤ 12; rw [List.length_set]; exact ⟨y2, y12⟩, Ck.mono (c := v10.2) h10 (by omega)⟩
theorem anyIm_ok {B : Nat} (hB : B ≤ 100000) {c : Cur} (hc : Ck B c) : Tot (spec_l1Cur_anyIm c) fun r => r.1.length ≤ 13 ∧ Ck (B + 350) r.2 := by
 unfold spec_l1Cur_anyIm spec_l1Cur_anyIm_k1
 refine (im_ok hB hc).bind fun v1 ⟨⟨l2, l12⟩, h1⟩ => ?_
 refine (pick_ok h1 (by omega) _).bind fun v2 ⟨⟨p1, p2⟩, h2⟩ => ?_
 refine Tot.idx p1 (p2 (by omega)) fun v3 _ => ?_
 refine (pick_ok h2 (by omega) _).bind fun v5 ⟨_, h5⟩ => ?_
 refine Tot.ite (fun _ => ?_) (fun _ => Tot.ite (fun _ => ?_) (fun _ => Tot.ite (fun _ => ?_) (fun _ => Tot.ite (fun _ => ?_) (fun _ => Tot.ite (fun _ => ?_) (fun _ => Tot.ret ⟨by show v1.1.length ≤ 13; omega, Ck.mono (c := v5.2) h5 (by omega)⟩)))))
 ·exact (anyRat_ok (by omega) h5).bind fun v7 h7 => Tot.ret ⟨by show (v1.1.set _ _).length ≤ 13; rw [List.length_set]; omega, Ck.mono (c := v7.2) h7 (by omega)⟩
 ·exact (anyRat_ok (by omega) h5).bind fun v7 h7 => Tot.ret ⟨by show (v1.1.set _ _).length ≤ 13; rw [List.length_set]; omega, Ck.mono (c := v7.2) h7 (by omega)⟩
 ·refine (pick_ok h5 (by omega) _).bind fun v11 ⟨⟨q1, q2⟩, h11⟩ => ?_
  have q3 := q2 (by omega)
  exact (make_tot (by omega) (by omega) (by omega) (by omega)).bind fun v12 _ => Tot.ret ⟨by show (v1.1.set _ _).length ≤ 13; rw [List.length_set]; omega, Ck.mono (c := v11.2) h11 (by omega)⟩
 ·rw [w64_id (by omega) (by omega)]
  exact Tot.guard ⟨by omega, by omega⟩ (Tot.ret ⟨by show (v1.1.take _).length ≤ 13; rw [List.length_take]; omega, Ck.mono (c := v5.2) h5 (by omega)⟩)
 ·refine Tot.bind (P := fun y : List Int × Int × Int × List Pt => y.2.2.2.length ≤ 13 ∧ cur4 y = v5.2) ?_ fun y ⟨hy, hyc⟩ => Tot.ret ⟨hy, ?_⟩
  ·refine Tot.loop (fun x => x.length ≤ 13) (fun x => 13 - x.length) (fun x hx => ?_) _ (by simp)
   unfold spec_l1Cur_anyIm_b1
   refine Tot.ite (fun hk => ?_) (fun hk => Tot.inr ⟨hx, rfl⟩)
   have hk' : (x.length : Int) < 13 := of_decide_eq_true hk
   refine (make_tot (by omega) (by omega) (by omega) (by omega)).bind fun v19 _ => ?_
   refine (raInt_tot _).bind fun v20 _ => ?_
   exact Tot.guard (by simp; omega) (Tot.inl ⟨by simp; omega, by simp; omega⟩)
  ·show Ck _ (cur4 y)
   rw [hyc]; exact Ck.mono (c := v5.2) h5 (by omega)
theorem strictMap_ok {B : Nat} (hB : B ≤ 10000) {c : Cur} (hc : Ck B c) : Tot (spec_l1Cur_strictMap c) fun r => r.1.length ≤ 13 ∧ Ck (B + 400) r.2 := by
 have k2 : ∀ (B' : Nat) (x6 : List Int × Int × Int × List Pt), B' + 10 ≤ B + 400 → x6.2.2.2.length ≤ 13 → Ck B' (cur4 x6) → Tot (spec_l1Cur_strictMap_k2 x6) fun r => r.1.length ≤ 13 ∧ Ck (B + 400) r.2 := by
  intro B' x6 hB' hl hc
  unfold spec_l1Cur_strictMap_k2
  refine (one_ok hc (by omega) _).bind fun v7 h7 => ?_
  refine Tot.ite (fun _ => ?_) (fun _ => Tot.ret ⟨hl, Ck.mono (c := v7.2) h7 (by omega)⟩)
  refine (pick_ok h7 (by omega) _).bind fun v9 ⟨⟨q1, q2⟩, h9⟩ => ?_
  have q3 := q2 (by omega)
  rw [w64_id (n := 1 + v9.1) (by omega) (by omega)]
  refine (make_tot (by omega) (by omega) (by omega) (by omega)).bind fun v10 _ => ?_
  refine (pick_ok h9 (by omega) _).bind fun v11 ⟨⟨q4, q5⟩, h11⟩ => ?_
  have q6 := q5 (by omega)
  rw [w64_id (n := 3 + v11.1) (by omega) (by omega)]
  refine (make_tot (by omega) (by omega) (by omega) (by omega)).bind fun v12 _ => ?_
  unfold spec_raInt
  simp only [Option.bind_some]
  exact Tot.ret ⟨by simp, Ck.mono (c := v11.2) h11 (by omega)⟩
 unfold spec_l1Cur_strictMap
 refine (one_ok hc (by omega) _).bind fun v1 h1 => ?_
 refine Tot.ite (fun _ => ?_) (fun _ => ?_)
 ·exact (anyIm_ok (by omega) h1).bind fun v3 ⟨a, b⟩ => Tot.ret ⟨a, b.mono (by omega)⟩
 ·refine (among_ok h1 (by omega) _ (by simp)).bind fun v4 ⟨m4, h4⟩ => ?_
  simp only [List.mem_cons, List.not_mem_nil, or_false] at m4
  refine Tot.bind (P := fun y : List Int × Int × Int × List Pt => y.2.2.2.length ≤ 13 ∧ Ck (B + 2 + 2 + 50) (cur4 y)) ?_ fun y ⟨hy, hyc⟩ => ?_
  ·refine Tot.loop (fun x => ((x.2.2.2.1.length : Int) = x.2.2.2.2 ∧ x.2.2.2.2 ≤ v4.1 + 1) ∧ Ck (B + 2 + 2 + 5 * x.2.2.2.1.length) (cur4 x)) (fun x => (v4.1 + 1 - x.2.2.2.2).toNat) (fun x ⟨⟨xl, xh⟩, xc⟩ => ?_) _ ⟨⟨by simp, by show (0 : Int) ≤ _; omega⟩, h4⟩
   obtain ⟨c1, c2, c3, l, i⟩ := x
   simp only [cur4] at xl xh xc ⊢
   have hw : w64 (i + 1) = i + 1 := w64_id (by omega) (by omega)
   have k3 : ∀ (v28 : Rt × Bool) (x30 : List Int × Int × Int × Int × Int), i ≤ v4.1 → Ck (B + 2 + 2 + 5 * l.length + 4) (x30.1, x30.2.1, x30.2.2.1) → Tot (spec_l1Cur_strictMap_k3 (c1, c2, c3, l, i) v28 x30) (Lp (fun x' : List Int × Int × Int × List Pt × Int => (((x'.2.2.2.1.length : Int) = x'.2.2.2.2 ∧ x'.2.2.2.2 ≤ v4.1 + 1) ∧ Ck (B + 2 + 2 + 5 * x'.2.2.2.1.length) (cur4 x')) ∧ (v4.1 + 1 - x'.2.2.2.2).toNat < (v4.1 + 1 - i).toNat) (fun y : List Int × Int × Int × List Pt => y.2.2.2.length ≤ 13 ∧ Ck (B + 2 + 2 + 50) (cur4 y))) := by
    intro v28 x30 hi hc
    unfold spec_l1Cur_strictMap_k3
    simp only [hw]
    exact Tot.guard (by simp; omega) (Tot.inl ⟨⟨⟨by simp; omega, by show i + 1 ≤ v4.1 + 1; omega⟩, Ck.mono (c := (x30.1, x30.2.1, x30.2.2.1)) hc (by simp; omega)⟩, by show (v4.1 + 1 - (i + 1)).toNat < _; omega⟩)
   unfold spec_l1Cur_strictMap_b2
   have ew : w64 ((l.length : Int) - 1) = (l.length : Int) - 1 := w64_id (by omega) (by omega)
   simp only [ew]
   refine Tot.ite (fun hi => ?_) (fun hi => Tot.inr ⟨?_, Ck.mono (c := (c1, c2, c3)) xc (by omega)⟩)
   ·have hi' : i ≤ v4.1 := of_decide_eq_true hi
    refine (make_tot (by omega) (by omega) (by omega) (by omega)).bind fun v28 _ => ?_
    refine (gridRat_ok (by omega) xc (by omega) (by omega)).bind fun v29 ⟨_, h29⟩ => ?_
    refine Tot.bind (P := fun w : List Int × Int × Int × Bool => (w.2.2.2 = true → 0 < l.length) ∧ Ck (B + 2 + 2 + 5 * l.length + 4) (w.1, w.2.1, w.2.2.1)) ?_ fun w ⟨w1, w2⟩ => ?_
    ·refine Tot.ite (fun hk => ?_) (fun _ => Tot.ret ⟨fun h => (by cases h), Ck.mono (c := v29.2) h29 (by omega)⟩)
     have hk' : (l.length : Int) > 0 := of_decide_eq_true hk
     refine Tot.idx (by omega) (by omega) fun v32 _ => ?_
     refine Tot.ite (fun _ => ?_) (fun _ => Tot.ret ⟨fun h => (by cases h), Ck.mono (c := v29.2) h29 (by omega)⟩)
     exact (one_ok h29 (by omega) _).bind fun v33 h33 => Tot.ret ⟨fun _ => (by omega), Ck.mono (c := v33.2) h33 (by omega)⟩
    ·refine Tot.ite (fun hk => ?_) (fun _ => k3 _ _ hi' w2)
     have := w1 hk
     unfold spec_imMirror
     rw [Option.bind_some]
     refine Tot.idx (by omega) (by omega) fun v37 _ => ?_
     refine Tot.ite (fun _ => ?_) (fun _ => k3 _ _ hi' w2)
     exact (raInt_tot _).bind fun v39 _ => k3 _ _ hi' w2
   ·have hi' : ¬ i ≤ v4.1 := of_decide_eq_false hi
    show l.length ≤ 13
    omega
  ·unfold spec_l1Cur_strictMap_k1
   refine (one_ok hyc (by omega) _).bind fun v17 h17 => ?_
   refine Tot.ite (fun _ => ?_) (fun _ => k2 _ _ (by omega : B + 2 + 2 + 50 + 2 + 10 ≤ B + 400) hy h17)
   refine Tot.bind (P := fun z : List Int × Int × Int × List Pt => z.2.2.2.length ≤ 13 ∧ cur4 z = v17.2) ?_ fun z ⟨hz, hzc⟩ => k2 (B + 2 + 2 + 50 + 2) z (by omega) hz (by rw [hzc]; exact h17)
   refine Tot.loop (fun x => (x.1.length : Int) = x.2 ∧ x.2 ≤ 12) (fun x => (12 - x.2).toNat) (fun x ⟨xl, xh⟩ => ?_) _ ⟨by simp, by simp⟩
   obtain ⟨l, i⟩ := x
   simp only at xl xh ⊢
   unfold spec_l1Cur_strictMap_b1
   refine Tot.ite (fun hi => ?_) (fun hi => Tot.inr ⟨by show l.length ≤ 13; omega, rfl⟩)
   have hi' : i < 12 := of_decide_eq_true hi
   refine (make_tot (by omega) (by omega) (by omega) (by omega)).bind fun v22 _ => ?_
   refine (raInt_tot _).bind fun v23 _ => ?_
   have hw : w64 (i + 1) = i + 1 := w64_id (by omega) (by omega)
   simp only [hw]
   exact Tot.guard (by simp; omega) (Tot.inl ⟨⟨by simp; omega, by show i + 1 ≤ _; omega⟩, by show (_ - (i + 1)).toNat < (_ - i).toNat; omega⟩)
end Go.PV

/-
 Plain law: the product of a graph and a vector.
 Conditions: none.
-/
set_option linter.all false
namespace Go.PV
end Go.PV

/-
 Plain law: more steps give bounds that are no worse.
 Conditions: none.
-/
set_option linter.all false
namespace Go.PV
section
variable {n : Nat} {G : Nat → Nat → Int}
def lbd (G : Nat → Nat → Int) (n : Nat) (p q : Int) (v : Nat → Int) : Prop := ∀ i, i < n → p * v i ≤ q * dotN (G i) v n
def ubd (G : Nat → Nat → Int) (n : Nat) (p q : Int) (v : Nat → Int) : Prop := ∀ i, i < n → q * dotN (G i) v n ≤ p * v i
section
variable {v : Nat → Int}
end
end
end Go.PV

/-
 Plain laws: FnLaps.
 Conditions: none.
-/
set_option linter.all false
namespace Go.PV
theorem pSameRats_self (xs : List Rt) (hl : xs.length ≤ 4611686018427387904) : laws_pSameRats xs xs = some true := by
 have hx := loop_idx (body := laws_pSameRats_b1 xs xs) xs.length (fun i => (i : Int)) (.inr ()) (fun i hi => by
  simp only [laws_pSameRats_b1, show ((i : Int) < (xs.length : Int)) from by omega, decide_true, if_true, idxO_lt hi, Option.bind_some, beq_self_eq_true, Bool.and_self, Bool.not_true, Bool.false_eq_true, if_false, w64_nat (show i < 9223372036854775807 by omega)]) (by simp [laws_pSameRats_b1])
 unfold laws_pSameRats
 rw [if_neg (by simp), show (0 : Int) = ((0 : Nat) : Int) from rfl, hx]
 rfl
theorem pLess_eq {a b : Rt} (ha : isRat a = true) (hb : isRat b = true) : laws_pLess a b = some (less a b) := by
 obtain ⟨a1, a2, a3, a4⟩ := tame_of ha
 obtain ⟨b1, b2, b3, b4⟩ := tame_of hb
 have m1 := mul_le_9 a1 a2 b3 b4
 have m2 := mul_le_9 b1 b2 a3 a4
 unfold laws_pLess less
 rw [w64_id (n := a.1 * b.2) (by omega) (by omega), w64_id (n := b.1 * a.2) (by omega) (by omega)]
section
variable {n : Nat} {p : Nat → Pt}
end
structure LapNo (f : List Pt) (m : Int) : Prop where
 gr : spec_LapGrowth f m = some ([], false) ∧ impl_LapGrowth f m = some ([], false)
 nu : spec_LapNumber f m = some (0, false) ∧ impl_LapNumber f m = some (0, false)
 en : spec_EndValues f m = some ([], false) ∧ impl_EndValues f m = some ([], false)
 va : spec_VariationOfIterate f m = some ((0, 0), false) ∧ impl_VariationOfIterate f m = some ((0, 0), false)
 hl : spec_HighestAndLowest f m = some ((0, 0), (0, 0), false) ∧ impl_HighestAndLowest f m = some ((0, 0), (0, 0), false)
noncomputable def grT (n : Nat) (p : Nat → Pt) (k : Nat) : Int := w64 (((itL n p (cutsT n p) k).length : Int) - 1)
structure LapYes (f : List Pt) (m : Int) (n : Nat) (p : Nat → Pt) (N : Nat) (l : List Rt) : Prop where
 ff : f = tab n p
 lo : 2 ≤ n
 hi : n ≤ 12
 mm : m = ((N : Nat) : Int)
 NN : N ≤ 12
 map : isMapT n p
 cur : Curve n p
 y : ∀ i, i < n → coord (p i).2 = true
 cr : ∀ x ∈ cutsT n p, isUnit x = true
 cl : (cutsT n p).length ≤ 12
 laps : (cutsT n p).length + 1 = (lapsT n p).length
 ways : Ways n p
 it : itO n p (cutsT n p) N = some l
 st : impl_IsStrict f = some (true, true)
 gr : spec_LapGrowth f m = some (tab (N + 1) (grT n p), true) ∧ impl_LapGrowth f m = some (tab (N + 1) (grT n p), true)
 nu : spec_LapNumber f m = some (w64 ((l.length : Int) - 1), true) ∧ impl_LapNumber f m = some (w64 ((l.length : Int) - 1), true)
 en : spec_EndValues f m = some (l, true) ∧ impl_EndValues f m = some (l, true)
 va : ∃ r, spec_VariationOfIterate f m = some r ∧ impl_VariationOfIterate f m = some r
 hl : spec_HighestAndLowest f m = some (mxN (fun i => l.getD i default) l.length, mnN (fun i => l.getD i default) l.length, true) ∧ impl_HighestAndLowest f m = some (mxN (fun i => l.getD i default) l.length, mnN (fun i => l.getD i default) l.length, true)
end Go.PV

/-
 Plain laws: draws of maps with one turn, and of words.
 Conditions: none.
-/
set_option linter.all false
namespace Go.PV
theorem of_ok {B : Nat} (hB : B ≤ 100000000) {c : Cur} (hc : Ck B c) (l : List ByteArray) (hl : l ≠ []) (hl2 : l.length ≤ 1000) : Tot (spec_l1Cur_of c l) fun r => r.1 ∈ l ∧ Ck (B + 2) r.2 := by
 unfold spec_l1Cur_of
 refine (pick_ok hc (by omega) _).bind fun v1 ⟨⟨q1, q2⟩, h1⟩ => ?_
 have : 1 ≤ (l.length : Int) := by cases l with
  | nil => exact absurd rfl hl
  | cons a l => simp only [List.length_cons]; omega
 have q3 := q2 this
 exact Tot.idx q1 q3 fun x hx => Tot.ret ⟨hx, h1⟩
theorem tdiv2 {a : Int} (h : 0 ≤ a) : Int.tdiv a 2 = a / 2 := by
 rw [Int.tdiv_eq_ediv_of_nonneg h]
theorem among3_ok {B : Nat} (hB : B ≤ 100000) {c : Cur} (hc : Ck B c) : Tot (spec_l1Cur_among3 c) fun r => Ck (B + 10) r.2 := by
 unfold spec_l1Cur_among3
 refine (among_ok hc (by omega) _ (by simp)).bind fun v1 ⟨m1, h1⟩ => ?_
 have hb : 2 ≤ v1.1 ∧ v1.1 ≤ 100 := by
  simp only [List.mem_cons, List.not_mem_nil, or_false] at m1
  omega
 rw [tdiv2 (by omega), w64_id (n := v1.1 / 2) (by omega) (by omega), w64_id (n := v1.1 / 2 + 1) (by omega) (by omega)]
 refine (pick_ok h1 (by omega) _).bind fun v2 ⟨⟨q1, q2⟩, h2⟩ => ?_
 have q3 := q2 (by omega)
 rw [w64_id (n := v1.1 - v2.1) (by omega) (by omega)]
 refine (make_tot (by omega) (by omega) (by omega) (by omega)).bind fun v3 _ => ?_
 refine (one_ok h2 (by omega) _).bind fun v4 h4 => ?_
 refine Tot.ite (fun _ => (raInt_tot 1).bind fun v6 _ => Tot.ret (Ck.mono (c := v4.2) h4 (by omega))) (fun _ => Tot.ret (Ck.mono (c := v4.2) h4 (by omega)))
theorem among4_ok {B : Nat} (hB : B ≤ 10000) {c : Cur} (hc : Ck B c) : Tot (spec_l1Cur_among4 c) fun r => Ck (B + 40) r.2 := by
 unfold spec_l1Cur_among4
 refine (pick_ok hc (by omega) _).bind fun v1 ⟨_, h1⟩ => ?_
 refine Tot.ite (fun _ => (anyRat_ok (by omega) h1).bind fun v3 h3 => Tot.ret (Ck.mono (c := v3.2) h3 (by omega))) (fun _ => ?_)
 refine Tot.ite (fun _ => ?_) (fun _ => (among3_ok (by omega) h1).bind fun v7 h7 => Tot.ret (Ck.mono (c := v7.2) h7 (by omega)))
 refine (pick_ok h1 (by omega) _).bind fun v5 ⟨_, h5⟩ => ?_
 exact (among_ok h5 (by omega) _ (by simp)).bind fun v6 ⟨_, h6⟩ => Tot.ret (Ck.mono (c := v6.2) h6 (by omega))
theorem oneTurn_ok {B : Nat} (hB : B ≤ 1000) {c : Cur} (hc : Ck B c) : Tot (spec_l1Cur_oneTurn c) fun r => r.1.length ≤ 13 ∧ Ck (B + 500) r.2 := by
 unfold spec_l1Cur_oneTurn
 refine (one_ok hc (by omega) _).bind fun v1 h1 => ?_
 refine Tot.ite (fun _ => (strictMap_ok (by omega) h1).bind fun v3 ⟨a, b⟩ => Tot.ret ⟨a, b.mono (by omega)⟩) (fun _ => ?_)
 refine (among3_ok (by omega) h1).bind fun v4 h4 => ?_
 refine (one_ok h4 (by omega) _).bind fun v5 h5 => ?_
 refine Tot.ite (fun _ => ?_) (fun _ => ?_)
 ·refine (pick_ok h5 (by omega) _).bind fun v7 ⟨⟨q1, q2⟩, h7⟩ => ?_
  have q3 := q2 (by omega)
  rw [w64_id (n := 1 + v7.1) (by omega) (by omega)]
  refine (make_tot (by omega) (by omega) (by omega) (by omega)).bind fun v8 _ => ?_
  refine (raInt_tot 0).bind fun v9 _ => ?_
  refine (gridRat_ok (by omega) h7 (by omega) (by omega)).bind fun v10 ⟨_, h10⟩ => ?_
  refine (raInt_tot 1).bind fun v11 _ => ?_
  refine (gridRat_ok (by omega) h10 (by omega) (by omega)).bind fun v12 ⟨_, h12⟩ => ?_
  exact Tot.ret ⟨by simp, Ck.mono (c := v12.2) h12 (by omega)⟩
 ·unfold spec_knTent spec_raInt
  simp only [Option.bind_some]
  exact Tot.ret ⟨by simp, Ck.mono (c := v5.2) h5 (by omega)⟩
theorem kneadingWord_ok {B : Nat} (hB : B ≤ 1000) {c : Cur} (hc : Ck B c) {a : Int} (a1 : 1 ≤ a) (a2 : a ≤ 30) : Tot (spec_l1Cur_kneadingWord c a) fun r => r.1.size ≤ 40 ∧ Ck (B + 1000) r.2 := by
 have k1 : ∀ (B' : Nat) (x2 : List Int × Int × Int × Int), B' + 100 ≤ B + 1000 → 0 ≤ x2.2.2.2 → x2.2.2.2 ≤ 31 → Ck B' (cur4 x2) → Tot (spec_l1Cur_kneadingWord_k1 x2) fun r => r.1.size ≤ 40 ∧ Ck (B + 1000) r.2 := by
  intro B' x2 hB' h0 h31 hc
  unfold spec_l1Cur_kneadingWord_k1
  refine Tot.bind (P := fun y : List Int × Int × Int × ByteArray => y.2.2.2.size ≤ 31 ∧ Ck (B' + 80) (cur4 y)) ?_ fun y ⟨hy, hyc⟩ => ?_
  ·refine Tot.loop (fun x : List Int × Int × Int × ByteArray => (x.2.2.2.size : Int) ≤ x2.2.2.2 ∧ Ck (B' + 2 * x.2.2.2.size) (cur4 x)) (fun x => (x2.2.2.2 - x.2.2.2.size).toNat) (fun x ⟨xs, xc⟩ => ?_) _ ⟨by show ((0 : Nat) : Int) ≤ _; omega, hc⟩
   unfold spec_l1Cur_kneadingWord_b1
   refine Tot.ite (fun hi => ?_) (fun hi => Tot.inr ⟨by omega, xc.mono (by omega)⟩)
   have hi' : (x.2.2.2.size : Int) < x2.2.2.2 := of_decide_eq_true hi
   refine (of_ok (by omega) (c := (x.1, x.2.1, x.2.2.1)) xc _ (by simp) (by simp)).bind fun v10 ⟨m10, h10⟩ => ?_
   have hs : v10.1.size = 1 := by
    simp only [List.mem_cons, List.not_mem_nil, or_false] at m10
    rcases m10 with h | h | h | h | h <;> rw [h] <;> rfl
   refine Tot.guard (by omega) (Tot.inl ⟨⟨?_, ?_⟩, ?_⟩)
   ·show ((x.2.2.2 ++ v10.1).size : Int) ≤ _
    rw [ByteArray.size_append]; omega
   ·show Ck (B' + 2 * (x.2.2.2 ++ v10.1).size) v10.2
    rw [ByteArray.size_append]
    exact Ck.mono (c := v10.2) h10 (by omega)
   ·show (x2.2.2.2 - ((x.2.2.2 ++ v10.1).size : Int)).toNat < _
    rw [ByteArray.size_append]; omega
  ·unfold spec_l1Cur_kneadingWord_k2
   refine (one_ok (c := (y.1, y.2.1, y.2.2.1)) hyc (by omega) _).bind fun v4 h4 => ?_
   refine Tot.ite (fun _ => ?_) (fun _ => Tot.ret ⟨by show y.2.2.2.size ≤ 40; omega, Ck.mono (c := v4.2) h4 (by omega)⟩)
   refine (of_ok (by omega) h4 _ (by simp) (by simp)).bind fun v6 ⟨m6, h6⟩ => ?_
   refine Tot.ret ⟨?_, Ck.mono (c := v6.2) h6 (by omega)⟩
   simp only [List.mem_cons, List.not_mem_nil, or_false] at m6
   rcases m6 with h | h | h | h <;> rw [h] <;> decide
 unfold spec_l1Cur_kneadingWord
 refine (pick_ok hc (by omega) _).bind fun v1 ⟨⟨q1, q2⟩, h1⟩ => ?_
 have q3 := q2 (by omega)
 refine (one_ok h1 (by omega) _).bind fun v12 h12 => ?_
 refine Tot.ite (fun _ => ?_) (fun _ => ?_)
 ·refine (pick_ok h12 (by omega) _).bind fun v14 ⟨⟨p1, p2⟩, h14⟩ => ?_
  have p3 := p2 (by omega)
  rw [w64_id (n := 30 + v14.1) (by omega) (by omega)]
  exact k1 _ (v14.2.1, v14.2.2.1, v14.2.2.2, 30 + v14.1) (by omega) (by show 0 ≤ 30 + v14.1; omega) (by show 30 + v14.1 ≤ 31; omega) h14
 ·rw [w64_id (n := 1 + v1.1) (by omega) (by omega)]
  exact k1 _ (v12.2.1, v12.2.2.1, v12.2.2.2, 1 + v1.1) (by omega) (by show 0 ≤ 1 + v1.1; omega) (by show 1 + v1.1 ≤ 31; omega) h12
theorem DrawKneadingOf_ok {l : List Int} (h : Bytes l) : Tot (spec_DrawKneadingOf l) fun r => r.1.length ≤ 13 := by
 unfold spec_DrawKneadingOf
 refine (oneTurn_ok (B := 0) (by omega) (ck0 h)).bind fun v1 ⟨l1, h1⟩ => ?_
 refine (among_ok h1 (by omega) _ (by simp)).bind fun v2 ⟨_, h2⟩ => ?_
 exact (among_ok h2 (by omega) _ (by simp)).bind fun v3 _ => Tot.ret l1
theorem DrawHeightFor_ok {l : List Int} (h : Bytes l) : Tot (spec_DrawHeightFor l) fun r => r.size ≤ 40 := by
 unfold spec_DrawHeightFor
 refine (kneadingWord_ok (B := 0) (by omega) (ck0 h) (by omega) (by omega)).bind fun v1 ⟨s1, h1⟩ => ?_
 refine (of_ok (by omega) h1 _ (by simp) (by simp)).bind fun v2 ⟨m2, _⟩ => Tot.ret ?_
 simp only [List.mem_cons, List.not_mem_nil, or_false] at m2
 rcases m2 with h | h | h | h | h | h | h | h | h | h | h <;> rw [h] <;> first | exact s1 | decide
theorem DrawTentOf_ok {l : List Int} (h : Bytes l) : Tot (spec_DrawTentOf l) fun _ => True := by
 unfold spec_DrawTentOf
 exact (among4_ok (B := 0) (by omega) (ck0 h)).bind fun v1 _ => Tot.ret trivial
end Go.PV

/-
 Plain laws: FnKneading.
 Conditions: none.
-/
set_option linter.all false
set_option maxRecDepth 100000
namespace Go.PV
theorem laps_first (σ : Nat → Int) : ∀ i, ∃ t L, lapsN σ (i + 1) = t :: L ∧ t.2.2 = σ 0
 | 0 => ⟨(0, 1, σ 0), [], rfl, rfl⟩
 | i + 1 => by
  obtain ⟨t, L, h1, h2⟩ := laps_first σ i
  have e : lapsN σ (i + 1 + 1) = lapStep (lapsN σ (i + 1)) (i + 1) (σ (i + 1)) := rfl
  rcases snoc_cases (lapsN σ (i + 1)) with h | ⟨L', t', h⟩
  ·rw [h] at h1; cases h1
  ·rw [h, lapStep_app] at e
   cases L' with
   | nil =>
    rw [h] at h1
    simp only [List.nil_append, List.cons.injEq] at h1
    obtain ⟨rfl, _⟩ := h1
    rw [e]
    split
    ·rename_i hs
     exact ⟨_, _, rfl, by rw [← hs]; exact h2⟩
    ·exact ⟨t', [(i + 1, i + 1 + 1, σ (i + 1))], rfl, h2⟩
   | cons t2 L2 =>
    rw [h] at h1
    simp only [List.cons_append, List.cons.injEq] at h1
    obtain ⟨rfl, _⟩ := h1
    rw [e]
    split
    ·exact ⟨t2, _, rfl, h2⟩
    ·exact ⟨t2, _, rfl, h2⟩
section
variable {n : Nat} {p : Nat → Pt} {t0 t1 : Trip}
theorem turn_ways (h2 : 2 ≤ n) (ht : lapsT n p = [t0, t1]) (h1 : t0.2.2 = 1) (hw : Ways n p) :
  cutsT n p = [(p t1.1).1] ∧ t1.1 + 1 < n ∧ (∀ i, i < t1.1 → wayOf p i = 1) ∧ (∀ i, t1.1 ≤ i → i + 1 < n → wayOf p i = -1) := by
 obtain ⟨k, rfl⟩ : ∃ k, n = k + 2 := ⟨n - 2, by omega⟩
 have e : lapsT (k + 2) p = lapsN (wayOf p) (k + 1) := rfl
 obtain ⟨t, L, f1, f2⟩ := laps_first (wayOf p) k
 obtain ⟨s1, _⟩ := laps_starts (wayOf p) k
 rw [← e, ht] at f1 s1
 simp only [List.cons.injEq] at f1
 obtain ⟨rfl, _⟩ := f1
 simp only [List.map_cons, List.map_nil, List.cons.injEq] at s1
 obtain ⟨s2, s3⟩ := s1
 have hm : ∀ m, m ∈ tnL (wayOf p) k ↔ m = t1.1 := fun m => by rw [← s3]; simp
 have ht1 := tnL_mem.1 ((hm t1.1).2 rfl)
 have w0 : wayOf p 0 = 1 := by rw [← f2]; exact h1
 have same : ∀ i, 1 ≤ i → i ≤ k → i ≠ t1.1 → wayOf p (i - 1) = wayOf p i := fun i i1 i2 i3 => by
  refine Classical.byContradiction fun hne => i3 ((hm i).1 (tnL_mem.2 ⟨i1, i2, hne⟩))
 have up : ∀ i, i < t1.1 → wayOf p i = 1 := by
  intro i
  induction i with
  | zero => intro _; exact w0
  | succ i ih =>
   intro hi
   have := same (i + 1) (by omega) (by omega) (by omega)
   rw [← this]
   exact ih (by omega)
 have down : ∀ j, t1.1 + j ≤ k → wayOf p (t1.1 + j) = -1 := by
  intro j
  induction j with
  | zero =>
   intro _
   have a := up (t1.1 - 1) (by omega)
   have b := ht1.2.2
   rw [a] at b
   rcases hw t1.1 (by omega) with ⟨c, _⟩ | ⟨c, _⟩
   ·exact absurd c.symm b
   ·exact c
  | succ j ih =>
   intro hj
   have := same (t1.1 + (j + 1)) (by omega) (by omega) (by omega)
   rw [← this]
   exact ih (by omega)
 refine ⟨?_, by omega, up, fun i i1 i2 => ?_⟩
 ·unfold cutsT
  rw [show k + 2 - 2 = k by omega, ← s3]
  rfl
 ·have := down (i - t1.1) (by omega)
  rwa [show t1.1 + (i - t1.1) = i by omega] at this
structure OneT (n : Nat) (p : Nat → Pt) (c : Rt) : Prop where
 cur : Curve n p
 y : ∀ i, i < n → coord (p i).2 = true
 cu : isUnit c = true
 up : ∀ {a b u v : Rt}, isUnit a = true → isUnit b = true → atQ n p a = some u → atQ n p b = some v → val a ≤ val b → val b ≤ val c → val u ≤ val v
 dn : ∀ {a b u v : Rt}, isUnit a = true → isUnit b = true → atQ n p a = some u → atQ n p b = some v → val c ≤ val a → val a ≤ val b → val v ≤ val u
theorem oneT_of (hC : Curve n p) (hy : ∀ i, i < n → coord (p i).2 = true) (ht : lapsT n p = [t0, t1]) (h1 : t0.2.2 = 1) (hw : Ways n p) : OneT n p (p t1.1).1 := by
 obtain ⟨w1, w2, w3, w4⟩ := turn_ways hC.lo ht h1 hw
 have hlt : t1.1 < n := by omega
 have hcu : isUnit (p t1.1).1 = true := (unit_val (coord_rat (hC.x _ hlt))).2 (coord_unit (hC.x _ hlt))
 have ux : ∀ {a : Rt}, isUnit a = true → isRat a = true := fun h => unit_rat h
 refine ⟨hC, hy, hcu, ?_, ?_⟩
 ·intro a b u v ha hb hu hv hab hbc
  by_cases he : val a = val b
  ·obtain rfl := val_inj (ux ha) (ux hb) he
   rw [hu] at hv
   obtain rfl := Option.some.inj hv
   exact Rat.le_refl
  ·have hlt' : val a < val b := by grind
   have hs : Seg (cutsT n p) a b := .inl ⟨hlt', fun c hc => by
    rw [w1, List.mem_singleton] at hc
    subst hc
    rintro ⟨_, h2⟩
    grind⟩
   obtain ⟨s1, _⟩ := seg_vals hC hw ha hb hu hv hs
   have hb1 := (unit_val (ux hb)).1 hb
   obtain ⟨i, i0, i1, i2⟩ := right_of hC ha (by grind)
   have hi : i < t1.1 := by
    refine Classical.byContradiction fun hn => ?_
    by_cases he2 : i = t1.1
    ·subst he2; grind
    ·have := hC.xlt (show t1.1 < i by omega) (by omega)
     grind
   have := (s1 hlt').1 i i0 i1 i2
   rw [w3 i hi] at this
   grind
 ·intro a b u v ha hb hu hv hca hab
  by_cases he : val a = val b
  ·obtain rfl := val_inj (ux ha) (ux hb) he
   rw [hu] at hv
   obtain rfl := Option.some.inj hv
   exact Rat.le_refl
  ·have hlt' : val a < val b := by grind
   have hs : Seg (cutsT n p) a b := .inl ⟨hlt', fun c hc => by
    rw [w1, List.mem_singleton] at hc
    subst hc
    rintro ⟨h2, _⟩
    grind⟩
   obtain ⟨s1, _⟩ := seg_vals hC hw ha hb hu hv hs
   have hb1 := (unit_val (ux hb)).1 hb
   obtain ⟨i, i0, i1, i2⟩ := right_of hC ha (by grind)
   have hi : t1.1 ≤ i := by
    refine Classical.byContradiction fun hn => ?_
    by_cases he2 : i + 1 = t1.1
    ·rw [he2] at i2; grind
    ·have := hC.xlt (show i + 1 < t1.1 by omega) (by omega)
     grind
   have := (s1 hlt').1 i i0 i1 i2
   rw [w4 i hi i0] at this
   grind
theorem cmp_vals {a b : Rt} (ha : 0 < a.2) (hb : 0 < b.2) : (cmp a b = -1 ∧ val a < val b) ∨ (cmp a b = 1 ∧ val b < val a) ∨ (cmp a b = 0 ∧ val a = val b) := by
 have h1 := less_val ha hb
 have h2 := less_val hb ha
 unfold less at h1 h2
 simp only [decide_eq_true_eq] at h1 h2
 unfold cmp
 by_cases a1 : a.1 * b.2 < b.1 * a.2
 ·rw [if_pos a1]; exact .inl ⟨rfl, h1.1 a1⟩
 ·rw [if_neg a1]
  by_cases a2 : a.1 * b.2 > b.1 * a.2
  ·rw [if_pos a2]; exact .inr (.inl ⟨rfl, h2.1 a2⟩)
  ·rw [if_neg a2]
   refine .inr (.inr ⟨rfl, ?_⟩)
   have b1 : ¬ val a < val b := fun h => a1 (h1.2 h)
   have b2 : ¬ val b < val a := fun h => a2 (h2.2 h)
   grind
theorem letter_cases {c z : Rt} (hc : isRat c = true) (hz : isRat z = true) : (letter c z = 76 ∧ val z < val c) ∨ (letter c z = 82 ∧ val c < val z) ∨ (letter c z = 67 ∧ val z = val c) := by
 unfold letter
 rcases cmp_vals (rt_pos hz) (rt_pos hc) with ⟨h, h2⟩ | ⟨h, h2⟩ | ⟨h, h2⟩
 ·left; rw [h]; exact ⟨by decide, h2⟩
 ·right; left; rw [h]; exact ⟨by decide, h2⟩
 ·right; right; rw [h]; exact ⟨by decide, h2⟩
def lets (c : Rt) (v : Nat → Rt) (a L : Nat) : List Int := (List.range' a L).map fun i => letter c (v i)
theorem lets_succ (c : Rt) (v : Nat → Rt) (a L : Nat) : lets c v a (L + 1) = letter c (v a) :: lets c v (a + 1) L := by
 unfold lets
 rw [List.range'_succ, List.map_cons]
theorem kc_orbit {c : Rt} (h : OneT n p c) {v : Nat → Rt} {m : Nat} (hu : ∀ i, i ≤ m → isUnit (v i) = true) (hv : ∀ i, i < m → atQ n p (v i) = some (v (i + 1))) : ∀ (L a b : Nat) (e : Int), a + L ≤ m + 1 → b + L ≤ m + 1 →
  ((e = 1 ∧ val (v a) ≤ val (v b)) ∨ (e = -1 ∧ val (v b) ≤ val (v a))) → kcW e (lets c v a L) (lets c v b L) ≤ 0 := by
 intro L
 induction L with
 | zero => intro a b e _ _ _; simp [lets, kcW]
 | succ L ih =>
  intro a b e ha hb he
  rw [lets_succ, lets_succ]
  simp only [kcW]
  have ua := hu a (by omega)
  have ub := hu b (by omega)
  have la := letter_cases (unit_rat h.cu) (unit_rat ua)
  have lb := letter_cases (unit_rat h.cu) (unit_rat ub)
  have go : ∀ e', (L = 0 ∨ ((e' = 1 ∧ val (v (a + 1)) ≤ val (v (b + 1))) ∨ (e' = -1 ∧ val (v (b + 1)) ≤ val (v (a + 1))))) → kcW e' (lets c v (a + 1) L) (lets c v (b + 1) L) ≤ 0 := fun e' h' => by
   rcases h' with rfl | h'
   ·simp [lets, kcW]
   ·exact ih (a + 1) (b + 1) e' (by omega) (by omega) h'
  have st : L = 0 ∨ (atQ n p (v a) = some (v (a + 1)) ∧ atQ n p (v b) = some (v (b + 1))) := by
   by_cases h0 : L = 0
   ·exact .inl h0
   ·exact .inr ⟨hv a (by omega), hv b (by omega)⟩
  by_cases hxy : letter c (v a) = letter c (v b)
  ·rw [if_pos hxy]
   by_cases h82 : letter c (v a) = 82
   ·rw [if_pos h82]
    refine go _ (st.imp_right fun ⟨s1, s2⟩ => ?_)
    have c1 : val c < val (v a) := by rcases la with ⟨x, _⟩ | ⟨_, x⟩ | ⟨x, _⟩ <;> first | exact x | (rw [x] at h82; omega)
    have c2 : val c < val (v b) := by rw [hxy] at h82; rcases lb with ⟨x, _⟩ | ⟨_, x⟩ | ⟨x, _⟩ <;> first | exact x | (rw [x] at h82; omega)
    rcases he with ⟨rfl, hle⟩ | ⟨rfl, hle⟩
    ·right
     exact ⟨rfl, h.dn ua ub s1 s2 (by grind) hle⟩
    ·left
     exact ⟨by omega, h.dn ub ua s2 s1 (by grind) hle⟩
   ·rw [if_neg h82]
    refine go _ (st.imp_right fun ⟨s1, s2⟩ => ?_)
    have c1 : val (v a) ≤ val c := by rcases la with ⟨_, x⟩ | ⟨x, _⟩ | ⟨_, x⟩ <;> first | grind | (exact absurd x h82)
    have c2 : val (v b) ≤ val c := by rw [hxy] at h82; rcases lb with ⟨_, x⟩ | ⟨x, _⟩ | ⟨_, x⟩ <;> first | grind | (exact absurd x h82)
    rcases he with ⟨rfl, hle⟩ | ⟨rfl, hle⟩
    ·left
     exact ⟨rfl, h.up ua ub s1 s2 hle c2⟩
    ·right
     exact ⟨rfl, h.up ub ua s2 s1 hle c1⟩
  ·rw [if_neg hxy]
   rcases he with ⟨rfl, hle⟩ | ⟨rfl, hle⟩
   ·have : rk (letter c (v a)) < rk (letter c (v b)) := by
     rcases la with ⟨x, x2⟩ | ⟨x, x2⟩ | ⟨x, x2⟩ <;> rcases lb with ⟨y, y2⟩ | ⟨y, y2⟩ | ⟨y, y2⟩ <;> rw [x, y] at hxy ⊢ <;> first | (exact absurd rfl hxy) | decide | (exfalso; grind)
    rw [if_pos this]; decide
   ·have : ¬ rk (letter c (v a)) < rk (letter c (v b)) := by
     rcases la with ⟨x, x2⟩ | ⟨x, x2⟩ | ⟨x, x2⟩ <;> rcases lb with ⟨y, y2⟩ | ⟨y, y2⟩ | ⟨y, y2⟩ <;> rw [x, y] at hxy ⊢ <;> first | (exact absurd rfl hxy) | decide | (exfalso; grind)
    rw [if_neg this]; decide
end
theorem kn_full (f : List Pt) (hl : f.length ≤ 4611686018427387904) : ∃ b, spec_knLaps f = some b ∧ impl_isUnimodal f = some b ∧
  (b = true → ∃ n p t0 t1, f = tab n p ∧ 2 ≤ n ∧ n ≤ 12 ∧ isMapT n p ∧ lapsT n p = [t0, t1] ∧ impl_isStrict f = some true ∧ OneT n p (p t1.1).1) := by
 obtain ⟨b, h1, h2, h3⟩ := both_kn f hl
 refine ⟨b, h1, h2, fun hb => ?_⟩
 subst hb
 obtain ⟨n, p, t0, t1, rfl, h5, h6, hT, ht⟩ := h3 rfl
 have hs : strictB n p = true := by
  cases hb : strictB n p
  ·obtain ⟨c', e5, e6⟩ := spec_imGood_tab n p h5 h6
   have hc : c' = true := e6.2 hT
   subst hc
   unfold spec_knLaps at h1
   rw [e5] at h1
   simp only [Option.bind_some, Bool.not_true, Bool.false_eq_true, if_false, spec_lpStrict_tab hT h5 h6, hb, Bool.not_false, if_true] at h1
   cases h1
  ·rfl
 have hst : impl_isStrict (tab n p) = some true := by
  obtain ⟨c, b', e1, e2, e3, e4⟩ := both_strict (tab n p) hl
  obtain ⟨c', e5, e6⟩ := spec_imGood_tab n p h5 h6
  have hc : c' = true := e6.2 hT
  subst hc
  rw [e5] at e1
  obtain rfl := Option.some.inj e1
  obtain ⟨e7, _⟩ := e4 rfl
  rw [spec_lpStrict_tab hT h5 h6, hs] at e7
  obtain rfl := Option.some.inj e7
  exact e3
 have h01 : t0.2.2 = 1 := by
  unfold impl_isUnimodal at h2
  rw [hst] at h2
  have f1 : idxO ([encT t0, encT t1] : List (List Int)) 0 = some (encT t0) := rfl
  have f2 : idxO (encT t0) 2 = some t0.2.2 := rfl
  rw [impl_laps_tab hT h5 h6, ht] at h2
  simpa [f1, f2] using h2
 have hC := Curve.of_map hT h5 h6
 have hy : ∀ i, i < n → coord (p i).2 = true := fun i hi => (hT.1 i hi).2
 exact ⟨n, p, t0, t1, rfl, h5, h6, hT, ht, hst, oneT_of hC hy ht h01 (ways_of hC hs)⟩
section
variable {n : Nat} {p : Nat → Pt} {t0 t1 : Trip}
theorem turningPoints_tab (h2 : 2 ≤ n) (hn : n ≤ 12) (hm : isMapT n p) (ht : lapsT n p = [t0, t1]) : spec_TurningPoints (tab n p) = some ([(p t1.1).1], true) ∧ impl_TurningPoints (tab n p) = some ([(p t1.1).1], true) := by
 obtain ⟨c, e1, e2⟩ := spec_imGood_tab n p h2 hn
 obtain ⟨c', e3, e4⟩ := impl_isMap_tab n p h2 hn
 have hc : c = true := e2.2 hm
 have hc' : c' = true := e4.2 hm
 subst hc hc'
 constructor
 ·have hlt := turn_lt h2 ht
  unfold spec_TurningPoints
  rw [e1]
  simp only [Option.bind_some, Bool.not_true, Bool.false_eq_true, if_false]
  rw [spec_imLaps_tab hm h2 hn, ht]
  have e : idxO ([encT t1] : List (List Int)) 0 = some (encT t1) := rfl
  have e2 : idxO (encT t1) 0 = some (t1.1 : Int) := rfl
  have hx := loop_idx (body := spec_TurningPoints_b1 (tab n p) [encT t0, encT t1]) 1 (fun i => (if i = 0 then [] else [(p t1.1).1], (i : Int))) [(p t1.1).1] (fun i hi => by
   have : i = 0 := by omega
   subst this
   simp only [spec_TurningPoints_b1]
   show (if decide ((0 : Int) < (1 : Int)) = true then (idxO [encT t1] 0).bind _ else _) = _
   simp only [show (0 : Int) < 1 from by decide, decide_true, if_true, e, Option.bind_some, e2, idxO_tab hlt]
   rfl) rfl
  have hx' : loopO (spec_TurningPoints_b1 (tab n p) [encT t0, encT t1]) ([], 0) = some [(p t1.1).1] := hx
  show ((guardO (0 ≤ 1 ∧ (1 : Int) ≤ 2)).bind fun u3 => (loopO (spec_TurningPoints_b1 (tab n p) [encT t0, encT t1]) ([], 0)).bind fun y5 => spec_TurningPoints_k1 y5) = _
  rw [hx']
  rfl
 ·unfold impl_TurningPoints
  rw [e3]
  simp only [Option.bind_some, Bool.not_true, Bool.false_eq_true, if_false, impl_turns_eq h2 hn hm ht]
end
theorem strCut_ints (s : ByteArray) {i j : Nat} (h : i ≤ j) (hj : j ≤ s.size) : ints (strCut s (i : Int) (j : Int)) = ((ints s).take j).drop i := by
 unfold ints strCut
 simp only [Int.toNat_natCast]
 rw [← List.map_take, ← List.map_drop]
 congr 1
 simp [ByteArray.data_extract, Array.toList_extract, List.extract]
 rw [List.drop_take]
theorem strCut_size (s : ByteArray) {i j : Nat} (h : i ≤ j) (hj : j ≤ s.size) : (strCut s (i : Int) (j : Int)).size = j - i := by
 rw [← ints_len, strCut_ints s h hj, List.length_drop, List.length_take, ints_len]
 omega
theorem strCut_ok {s : ByteArray} (h : wordOk s = true) {i j : Nat} (hij : i ≤ j) (hj : j ≤ s.size) : wordOk (strCut s (i : Int) (j : Int)) = true := by
 rw [wordOk_ints] at h ⊢
 rw [strCut_ints s hij hj, List.all_eq_true] at *
 intro x hx
 exact h x (List.mem_of_mem_take (List.mem_of_mem_drop hx))
theorem maximal_eq (s : ByteArray) (hs : wordOk s = true) (hb : s.size ≤ 1048576) (hmax : ∀ k, 1 ≤ k → k < s.size → kcW 1 ((ints s).drop k) ((ints s).take (s.size - k)) ≤ 0) : impl_isMaximal s = some true := by
 by_cases h0 : s.size = 0
 ·unfold impl_isMaximal
  rw [loopO_eq]
  have : impl_isMaximal_b1 s 1 = some (.inr (.inr ())) := by simp [impl_isMaximal_b1, h0]
  rw [this]; rfl
 ·have hx := loop_idx (body := impl_isMaximal_b1 s) (s.size - 1) (fun i => ((i + 1 : Nat) : Int)) (.inr ()) (fun i hi => by
   have hk := hmax (i + 1) (by omega) (by omega)
   have w1 : w64 ((s.size : Int) - ((i + 1 : Nat) : Int)) = ((s.size - (i + 1) : Nat) : Int) := by rw [w64_id (by omega) (by omega)]; omega
   have c := impl_compare_words (strCut_ok hs (show i + 1 ≤ s.size by omega) (Nat.le_refl _)) (strCut_ok hs (show 0 ≤ s.size - (i + 1) by omega) (by omega)) (by rw [strCut_size s (by omega) (Nat.le_refl _), strCut_size s (by omega) (by omega)]; omega) (by rw [strCut_size s (by omega) (Nat.le_refl _)]; omega)
   rw [strCut_ints s (by omega) (Nat.le_refl _), strCut_ints s (by omega) (by omega), show (ints s).take s.size = ints s from List.take_of_length_le (by rw [ints_len]; omega), List.drop_zero] at c
   unfold impl_isMaximal_b1
   rw [if_pos (show decide (((i + 1 : Nat) : Int) < (s.size : Int)) = true from decide_eq_true (by omega)), w1, guardO_bind_pos ⟨by omega, by omega⟩, guardO_bind_pos ⟨by omega, by omega⟩]
   have c' : impl_compareKneading (strCut s ((i + 1 : Nat) : Int) (s.size : Int)) (strCut s 0 ((s.size - (i + 1) : Nat) : Int)) = some (kcW 1 ((ints s).drop (i + 1)) ((ints s).take (s.size - (i + 1)))) := c
   rw [c', Option.bind_some, if_neg (by simp; omega), w64_nat (show i + 1 < 9223372036854775807 by omega)]) (by
   have : ((s.size - 1 + 1 : Nat) : Int) = s.size := by omega
   simp only [this]
   simp [impl_isMaximal_b1])
  unfold impl_isMaximal
  have hx' : loopO (impl_isMaximal_b1 s) 1 = some (.inr ()) := hx
  rw [hx']
  rfl
theorem ints_word (c : Rt) (v : Nat → Rt) (m : Nat) : ints (wordB c (tab m (fun i => v (i + 1)))) = lets c v 1 m := by
 unfold ints wordB bytesB lets tab
 simp only [List.map_map]
 rw [List.range'_eq_map_range, List.map_map]
 refine List.map_congr_left fun i _ => ?_
 simp only [Function.comp]
 rw [Nat.add_comm 1 i]
 unfold letter
 split
 ·rfl
 ·split <;> rfl
theorem lets_drop (c : Rt) (v : Nat → Rt) (a L k : Nat) (hk : k ≤ L) : (lets c v a L).drop k = lets c v (a + k) (L - k) := by
 unfold lets
 rw [← List.map_drop, List.drop_range']
 simp
theorem lets_take (c : Rt) (v : Nat → Rt) (a L k : Nat) (hk : k ≤ L) : (lets c v a L).take k = lets c v a k := by
 unfold lets
 rw [← List.map_take]
 congr 1
 apply List.ext_getElem
 ·simp [Nat.min_eq_left hk]
 ·intro i a1 a2
  simp
section
variable {n : Nat} {p : Nat → Pt} {t0 t1 : Trip}
theorem orbit_facts (hC : Curve n p) (hy : ∀ i, i < n → coord (p i).2 = true) {c : Rt} (hc : isUnit c = true) {k : Nat} (h : vQ n p c k = some (vv n p c k)) :
  (∀ i, i ≤ k → isUnit (vv n p c i) = true) ∧ (∀ i, i < k → atQ n p (vv n p c i) = some (vv n p c (i + 1))) := by
 refine ⟨fun i hi => (vv_unit hC hy hc h hi).2, fun i hi => ?_⟩
 have a := (vv_unit hC hy hc h (show i ≤ k by omega)).1
 have b := (vv_unit hC hy hc h (show i + 1 ≤ k by omega)).1
 simp only [vQ, a, Option.bind_some] at b
 exact b
theorem word_max {c : Rt} (h : OneT n p c) {k : Nat} (hv : vQ n p c k = some (vv n p c k)) (hk : k ≤ 30) : impl_isMaximal (wordB c (tab k (fun i => vv n p c (i + 1)))) = some true := by
 obtain ⟨f1, f2⟩ := orbit_facts h.cur h.y h.cu hv
 have hsz : (wordB c (tab k (fun i => vv n p c (i + 1)))).size = k := by rw [wordB_size, tab_len]
 refine maximal_eq _ (wordB_ok _ _) (by omega) fun j j1 j2 => ?_
 rw [hsz] at j2 ⊢
 rw [ints_word, lets_drop _ _ _ _ _ (by omega), lets_take _ _ _ _ _ (by omega)]
 refine kc_orbit h f1 f2 (k - j) (1 + j) 1 1 (by omega) (by omega) (.inl ⟨rfl, ?_⟩)
 -- the first value is the greatest
 have a0 := f2 0 (by omega)
 have aj := f2 j (by omega)
 have e0 : vv n p c 0 = c := rfl
 rw [e0] at a0
 rw [Nat.add_comm 1 j]
 have uj := f1 j (by omega)
 by_cases hle : val (vv n p c j) ≤ val c
 ·exact h.up uj h.cu aj a0 hle Rat.le_refl
 ·exact h.dn h.cu uj a0 aj Rat.le_refl (by grind)
end
theorem pSameMap_self (xs : List Pt) (hl : xs.length ≤ 4611686018427387904) : laws_pSameMap xs xs = some true := by
 have hx := loop_idx (body := laws_pSameMap_b1 xs xs) xs.length (fun i => (i : Int)) (.inr ()) (fun i hi => by
  simp only [laws_pSameMap_b1, show ((i : Int) < (xs.length : Int)) from by omega, decide_true, if_true, idxO_lt hi, Option.bind_some, beq_self_eq_true, Bool.and_self, Bool.not_true, Bool.false_eq_true, if_false, w64_nat (show i < 9223372036854775807 by omega)]) (by simp [laws_pSameMap_b1])
 unfold laws_pSameMap
 rw [if_neg (by simp), show (0 : Int) = ((0 : Nat) : Int) from rfl, hx]
 rfl
theorem tent_map_iff (h : Rt) : isMapT 3 (tentP h) ↔ coord h = true := ⟨fun hm => (hm.1 1 (by omega)).2, tent_map⟩
theorem both_TentOf (h : Rt) : spec_TentOf h = some (if coord h = true ∧ ¬ h.1 = 0 then (tab 3 (tentP h), true) else ([], false)) ∧ impl_TentOf h = some (if coord h = true ∧ ¬ h.1 = 0 then (tab 3 (tentP h), true) else ([], false)) := by
 obtain ⟨c, e1, e2⟩ := impl_isMap_tab 3 (tentP h) (by omega) (by omega)
 have hc : c = coord h := by
  rw [Bool.eq_iff_iff, e2]
  exact tent_map_iff h
 subst hc
 unfold spec_TentOf impl_TentOf
 rw [impl_tent, Option.bind_some, e1, spec_imCoord_eq, spec_tent]
 simp only [Option.bind_some]
 cases hc : coord h
 ·simp
 ·by_cases h0 : h.1 = 0 <;> simp [h0]
theorem kneading_k2 (a1 : List Int) (h1 : Bytes a1) : laws_FnKneading_k2 a1 () = some true := by
 unfold laws_FnKneading_k2
 obtain ⟨x, e, _⟩ := DrawTentOf_ok h1
 obtain ⟨e1, e2⟩ := both_TentOf x
 rw [e, Option.bind_some, e2, Option.bind_some, e1]
 have hs : ∀ t : List Pt × Bool, t.1.length ≤ 3 → ((if (t.2 == t.2) = true then (laws_pSameMap t.1 t.1).bind fun v20 => some v20 else some false).bind fun w21 => some w21) = some true := fun t ht => by
  simp [pSameMap_self t.1 (by omega)]
 exact hs _ (by split <;> simp [tab_len])
theorem kneading_k1 (a1 : List Int) (h1 : Bytes a1) : laws_FnKneading_k1 a1 () = some true := by
 unfold laws_FnKneading_k1
 obtain ⟨s, e, hs⟩ := DrawHeightFor_ok h1
 obtain ⟨r, e1, e2, e3⟩ := both_HeightFor s (by omega)
 rw [e, Option.bind_some, e2, Option.bind_some, e1, Option.bind_some]
 simp only [beq_self_eq_true, Bool.not_true, Bool.and_self, Bool.or_self, Bool.false_eq_true, if_false]
 rcases e3 with rfl | ⟨hw, m1, m2, rfl | ⟨k, k1, k2, rfl, hk⟩⟩
 ·exact kneading_k2 a1 h1
 ·exact kneading_k2 a1 h1
 ·obtain ⟨ht, _⟩ := tent_ok k1 k2
  obtain ⟨t1, t2⟩ := both_TentOf (hgt k)
  have hnz : ¬ (hgt k).1 = 0 := by have := ht.nz; simpa using this
  rw [if_pos ⟨ht.co, hnz⟩] at t1 t2
  obtain ⟨w1, w2⟩ := tent_words ht m1 m2
  have hin : inB 1 30 (s.size : Int) = true := inB_iff.2 ⟨by omega, by omega⟩
  have w3 : spec_KneadingOf (tab 3 (tentP (hgt k))) (s.size : Int) = some (tentW (hgt k) s.size, true) := by
   unfold spec_KneadingOf
   rw [(tent_uni ht).1]
   simp only [Option.bind_some, Bool.not_true, Bool.false_eq_true, if_false, spec_knLength, spec_l1In_eq, hin, w1]
  have hwo : wordOk (tentW (hgt k) s.size) = true := wordB_ok _ _
  have hsz := tentW_size (hgt k) s.size
  have c : impl_CompareKneading (tentW (hgt k) s.size) s = some (kcW 1 (ints (tentW (hgt k) s.size)) (ints s), true) := by
   unfold impl_CompareKneading
   rw [impl_isKneadingWord_eq _ (by omega), impl_isKneadingWord_eq _ (by omega), hsz, hin, hwo, hw]
   simp only [Option.bind_some, Bool.and_self, Bool.not_true, Bool.false_eq_true, if_false, bne_self_eq_false, impl_compare_words hwo hw hsz (by omega)]
  have hgt0 : decide (kcW 1 (ints (tentW (hgt k) s.size)) (ints s) > 0) = false := decide_eq_false (by omega)
  simp only [if_true, t1, t2, Option.bind_some, w2, w3, c, Bool.not_true, Bool.false_eq_true, if_false, pSameMap_self (tab 3 (tentP (hgt k))) (by rw [tab_len]; omega), beq_self_eq_true, hgt0]
  exact kneading_k2 a1 h1
theorem laws_FnKneading_eq (a0 a1 : List Int) (h0 : Bytes a0) (h1 : Bytes a1) : laws_FnKneading a0 a1 = some true := by
 unfold laws_FnKneading laws_big
 rw [Option.bind_some]
 by_cases hbig : (decide ((a0.length : Int) > 1048576) || decide ((a1.length : Int) > w64 (1048576 - (a0.length : Int)))) = true
 ·rw [if_pos hbig]
 rw [if_neg hbig]
 obtain ⟨v, e, hv⟩ := DrawKneadingOf_ok h0
 rw [e, Option.bind_some]
 obtain ⟨f, m⟩ := v
 simp only at hv ⊢
 obtain ⟨w, k1, k2⟩ := both_KneadingOf f m (by omega)
 obtain ⟨r, ok, hr, t1, t2⟩ := both_TurningValues f m (by omega)
 obtain ⟨b, u1, u2, u3⟩ := kn_full f (by omega)
 -- both fail, or both stand
 have hcase : (ok = false ∧ w.2 = false) ∨ (∃ n p t0 t1' k, f = tab n p ∧ m = ((k : Nat) : Int) ∧ 1 ≤ k ∧ k ≤ 30 ∧ 2 ≤ n ∧ n ≤ 12 ∧ isMapT n p ∧ lapsT n p = [t0, t1'] ∧ impl_isStrict f = some true ∧ OneT n p (p t1'.1).1 ∧ b = true ∧
   vQ n p (p t1'.1).1 k = some (vv n p (p t1'.1).1 k) ∧ ok = true ∧ r = tab k (fun i => vv n p (p t1'.1).1 (i + 1)) ∧ w = (wordB (p t1'.1).1 (tab k (fun i => vv n p (p t1'.1).1 (i + 1))), true)) := by
  unfold spec_TurningValues at t1
  unfold spec_KneadingOf at k1
  rw [u1] at t1 k1
  cases b
  ·simp only [Option.bind_some, Bool.not_false, if_true, Option.some.injEq] at t1 k1
   left
   exact ⟨(congrArg Prod.snd t1).symm, by rw [← k1]⟩
  ·simp only [Option.bind_some, Bool.not_true, Bool.false_eq_true, if_false, spec_knLength, spec_l1In_eq] at t1 k1
   cases hm : inB 1 30 m
   ·rw [hm] at t1 k1
    simp only [Option.bind_some, Bool.not_false, if_true, Option.some.injEq] at t1 k1
    left
    exact ⟨(congrArg Prod.snd t1).symm, by rw [← k1]⟩
   ·rw [hm] at t1 k1
    obtain ⟨n, p, t0, t1', rfl, h5, h6, hT, ht, hst, hone⟩ := u3 rfl
    obtain ⟨m1, m2⟩ := inB_iff.1 hm
    obtain ⟨k, rfl⟩ := Int.eq_ofNat_of_zero_le (show 0 ≤ m by omega)
    simp only [Bool.not_true, Bool.false_eq_true, if_false, Option.bind_some] at t1 k1
    rcases kneading_tab h5 h6 hT ht u2 k (by omega) (by omega) with ⟨q1, q2, q3⟩ | ⟨q1, q2, q3⟩
    ·rw [q2] at t1
     simp only [Option.bind_some, Option.some.injEq] at t1
     simp only [spec_knWord, q2, Option.bind_some, Bool.not_false, if_true, Option.some.injEq] at k1
     left
     exact ⟨(congrArg Prod.snd t1).symm, by rw [← k1]⟩
    ·rw [q2] at t1
     simp only [Option.bind_some, Option.some.injEq, Prod.mk.injEq] at t1
     obtain ⟨x1, x2⟩ := words_tab h5 h6 hT ht u2 k (by omega) (by omega) (by rw [q1]; simp)
     rw [x1] at k1
     simp only [Option.bind_some, Option.some.injEq] at k1
     right
     exact ⟨n, p, t0, t1', k, rfl, rfl, by omega, by omega, h5, h6, hT, ht, hst, hone, rfl, q1, t1.2.symm, t1.1.symm, k1.symm⟩
 rw [k1, k2, t1, t2]
 rcases hcase with ⟨rfl, hw2⟩ | ⟨n, p, t0, t1', k, rfl, rfl, c1, c2, h5, h6, hT, ht, hst, hone, rfl, hq, rfl, rfl, rfl⟩
 ·simp only [Option.bind_some, hw2, beq_self_eq_true, Bool.not_true, Bool.false_eq_true, if_false, pSameRats_self r (by omega)]
  exact kneading_k1 a1 h1
 ·obtain ⟨tp1, tp2⟩ := turningPoints_tab h5 h6 hT ht
  have hwo : wordOk (wordB (p t1'.1).1 (tab k (fun i => vv n p (p t1'.1).1 (i + 1)))) = true := wordB_ok _ _
  have hsz : (wordB (p t1'.1).1 (tab k (fun i => vv n p (p t1'.1).1 (i + 1)))).size = k := by rw [wordB_size, tab_len]
  have hin : inB 1 30 (k : Int) = true := inB_iff.2 ⟨by omega, by omega⟩
  have ikw : impl_isKneadingWord (wordB (p t1'.1).1 (tab k (fun i => vv n p (p t1'.1).1 (i + 1)))) = some true := by
   rw [impl_isKneadingWord_eq _ (by omega), hsz, hin, hwo]; rfl
  have imw : impl_IsMaximalWord (wordB (p t1'.1).1 (tab k (fun i => vv n p (p t1'.1).1 (i + 1)))) = some (true, true) := by
   unfold impl_IsMaximalWord
   rw [ikw, Option.bind_some, word_max hone hq c2]
   rfl
  have iun : impl_IsUnimodal (tab n p) = some (true, true) := by
   unfold impl_IsUnimodal
   rw [hst, u2]; rfl
  have iik : impl_IsKneadingWord (wordB (p t1'.1).1 (tab k (fun i => vv n p (p t1'.1).1 (i + 1)))) = some true := by
   unfold impl_IsKneadingWord
   rw [ikw]; rfl
  obtain ⟨f1, f2⟩ := orbit_facts hone.cur hone.y hone.cu hq
  have hloop : loopO (laws_FnKneading_b1 (wordB (p t1'.1).1 (tab k (fun i => vv n p (p t1'.1).1 (i + 1))), true) (tab k (fun i => vv n p (p t1'.1).1 (i + 1)), true) ([(p t1'.1).1], true)) 0 = some (.inr ()) := by
   refine loop_idx (body := laws_FnKneading_b1 _ _ _) k (fun i => (i : Int)) (.inr ()) (fun i hi => ?_) (by simp [laws_FnKneading_b1, tab_len])
   have gi : idxO ([(p t1'.1).1] : List Rt) 0 = some (p t1'.1).1 := rfl
   have rz := unit_rat (f1 (i + 1) (by omega))
   have rc := unit_rat hone.cu
   have hz : strAt (wordB (p t1'.1).1 (tab k (fun i => vv n p (p t1'.1).1 (i + 1)))) (i : Int) = letter (p t1'.1).1 (vv n p (p t1'.1).1 (i + 1)) := by
    rw [strAt_ints _ (by rw [hsz]; exact hi)]
    simp only [ints_word]
    unfold lets
    simp [Nat.add_comm]
   have k4 : ∀ x : Int, letter (p t1'.1).1 (vv n p (p t1'.1).1 (i + 1)) = x → laws_FnKneading_k4 (wordB (p t1'.1).1 (tab k (fun i => vv n p (p t1'.1).1 (i + 1))), true) (i : Int) x = some (.inl ((i + 1 : Nat) : Int)) := fun x hx => by
    unfold laws_FnKneading_k4
    rw [guardO_bind_pos ⟨by omega, by rw [hsz]; omega⟩]
    simp only [hz, hx, bne_self_eq_false, Bool.false_eq_true, if_false, w64_nat (show i < 9223372036854775807 by omega)]
   unfold laws_FnKneading_b1
   simp only [tab_len, show ((i : Int) < (k : Int)) from by omega, decide_true, if_true, idxO_tab hi, gi, Option.bind_some, pLess_eq rz rc]
   rcases letter_cases rc rz with ⟨l1, l2⟩ | ⟨l1, l2⟩ | ⟨l1, l2⟩
   ·rw [if_pos ((less_val (rt_pos rz) (rt_pos rc)).2 l2)]
    unfold laws_FnKneading_k3
    simp only [gi, Option.bind_some, pLess_eq rc rz]
    rw [(less_val_no (rt_pos rc) (rt_pos rz)).2 (by grind)]
    exact k4 76 l1
   ·rw [(less_val_no (rt_pos rz) (rt_pos rc)).2 (by grind)]
    unfold laws_FnKneading_k3
    simp only [Bool.false_eq_true, if_false, gi, Option.bind_some, pLess_eq rc rz]
    rw [if_pos ((less_val (rt_pos rc) (rt_pos rz)).2 l2)]
    exact k4 82 l1
   ·rw [(less_val_no (rt_pos rz) (rt_pos rc)).2 (by grind)]
    unfold laws_FnKneading_k3
    simp only [Bool.false_eq_true, if_false, gi, Option.bind_some, pLess_eq rc rz]
    rw [(less_val_no (rt_pos rc) (rt_pos rz)).2 (by grind)]
    exact k4 67 l1
  have hrl : (tab k (fun i => vv n p (p t1'.1).1 (i + 1))).length ≤ 4611686018427387904 := by rw [tab_len]; omega
  simp only [Option.bind_some, beq_self_eq_true, Bool.not_true, Bool.false_eq_true, if_false, if_true, pSameRats_self _ hrl, tp1, tp2, imw, iun, pSameRats_self [(p t1'.1).1] (by simp), hsz, tab_len, bne_self_eq_false, iik, hloop]
  exact kneading_k1 a1 h1
end Go.PV

/-
 What comes in as bytes is bytes.
 Conditions: none.
-/
set_option linter.all false
namespace Go.PV
theorem bytes_of {l : List Int} (h : (Ty.sl (.int .u8)).ok l) : Bytes l := by
 refine ⟨Nat.le_trans h.1 (by decide), fun b hb => ?_⟩
 have h2 : (Lit.int .u8 b).wf = true := h.2 b hb
 simp only [Lit.wf, Bool.and_eq_true, decide_eq_true_eq] at h2
 have e1 : IntKind.u8.min = 0 := by decide
 have e2 : IntKind.u8.max = 255 := by decide
 omega
end Go.PV
