/-
  Plain laws of what the functions answer.
  Conditions: none.
-/
import Derived.KernelRfl
import Derived.Test.YtcmcgkkjkaahcaaGreatPvCx
import Derived.Test.YtcmcgkkjkaahcaaGreatDf
set_option linter.all false
/-
 Plain laws: bounds, lists of numbers, vectors.
 Conditions: none.
-/
namespace Go.PV
def inB (a b n : Int) : Bool := decide (a ≤ n) && decide (n ≤ b)
theorem inB_iff {a b n : Int} : inB a b n = true ↔ a ≤ n ∧ n ≤ b := by simp [inB]
theorem yka (v a b : Int) : spec_l1In v a b = some (inB a b v) := rfl
theorem yna (v a b : Int) : impl_within v a b = some (inB a b v) := rfl
def isVec (xs : List Int) : Bool := inB 1 8 xs.length && xs.all (inB 1 1000000)
end Go.PV

/-
 Plain laws: greatest divisors, fractions, floors, fractions reduced.
 Conditions: none.
-/
namespace Go.PV
theorem yqb (a b : Nat) (hb : b ≠ 0) : Nat.gcd b (a % b) = Nat.gcd a b := by
 rw [Nat.gcd_comm a b, Nat.gcd_rec b a, Nat.gcd_comm]
theorem ysd (b : Nat) : ∀ a : Nat, loopO impl_greatestDivisor_b1 ((a : Int), (b : Int)) = some ((Nat.gcd a b : Nat) : Int) := by
 induction b using Nat.strongRecOn with
 | ind b ih =>
  intro a
  rw [loopO_eq]
  by_cases hb : b = 0
  ·subst hb; simp [impl_greatestDivisor_b1]
  ·have hb' : ((b : Int) != 0) = true := by simp; omega
   simp only [impl_greatestDivisor_b1, hb', if_true, guardO_bind_pos (show (b : Int) ≠ 0 by omega)]
   have : Int.tmod (a : Int) (b : Int) = ((a % b : Nat) : Int) := rfl
   rw [this, ih (a % b) (Nat.mod_lt _ (by omega)) b, yqb a b hb]
theorem ytd (b : Nat) : ∀ a : Nat, loopO spec_raCommon_b1 ((a : Int), (b : Int)) = some ((Nat.gcd a b : Nat) : Int) := by
 induction b using Nat.strongRecOn with
 | ind b ih =>
  intro a
  rw [loopO_eq]
  by_cases hb : b = 0
  ·subst hb; simp [spec_raCommon_b1]
  ·have hb' : decide ((b : Int) > 0) = true := by simp; omega
   simp only [spec_raCommon_b1, hb', if_true, guardO_bind_pos (show (b : Int) ≠ 0 by omega)]
   have : Int.tmod (a : Int) (b : Int) = ((a % b : Nat) : Int) := rfl
   rw [this, ih (a % b) (Nat.mod_lt _ (by omega)) b, yqb a b hb]
theorem yad (a : Int) (h : -9223372036854775808 < a) (h2 : a ≤ 9223372036854775807) : impl_abs a = some (a.natAbs : Int) := by
 unfold impl_abs
 by_cases ha : a < 0
 ·simp only [ha, decide_true, if_true]; rw [w64_id (by omega) (by omega)]; congr 1; omega
 ·simp only [ha, decide_false, Bool.false_eq_true, if_false]; congr 1; omega
theorem yua (a : Int) (h : -9223372036854775808 < a) (h2 : a ≤ 9223372036854775807) : spec_l1Abs a = some (a.natAbs : Int) := by
 unfold spec_l1Abs spec_l1Most
 rw [w64_id (by omega) (by omega)]
 by_cases ha : a > 0 - a
 ·simp only [ha, decide_true, if_true, Option.bind_some]; congr 1; omega
 ·simp only [ha, decide_false, Bool.false_eq_true, if_false, Option.bind_some]; congr 1; omega
theorem yoa (a b : Int) (h : -9223372036854775808 < a) (h2 : a ≤ 9223372036854775807) (h3 : -9223372036854775808 < b) (h4 : b ≤ 9223372036854775807) :
  impl_greatestDivisor a b = some ((Int.gcd a b : Nat) : Int) := by
 simp only [impl_greatestDivisor, yad a h h2, yad b h3 h4, Option.bind_some, ysd, impl_greatestDivisor_k1]
 rfl
theorem yfb (a b : Int) (h : 0 ≤ a) (h2 : 0 ≤ b) : spec_raCommon a b = some ((Int.gcd a b : Nat) : Int) := by
 obtain ⟨m, rfl⟩ := Int.eq_ofNat_of_zero_le h
 obtain ⟨n, rfl⟩ := Int.eq_ofNat_of_zero_le h2
 simp only [spec_raCommon]
 rw [ytd]
 rfl
def isRat (r : Int × Int) : Bool := inB 1 1000000000 r.2 && (inB (-1000000000) 1000000000 r.1 && (Int.gcd r.1 r.2 : Int) == 1)
theorem isRat_iff {r : Int × Int} : isRat r = true ↔ 1 ≤ r.2 ∧ r.2 ≤ 1000000000 ∧ -1000000000 ≤ r.1 ∧ r.1 ≤ 1000000000 ∧ Int.gcd r.1 r.2 = 1 := by
 simp only [isRat, Bool.and_eq_true, inB_iff, beq_iff_eq]
 constructor
 ·rintro ⟨⟨h1, h2⟩, ⟨h3, h4⟩, h5⟩; exact ⟨h1, h2, h3, h4, by omega⟩
 ·rintro ⟨h1, h2, h3, h4, h5⟩; exact ⟨⟨h1, h2⟩, ⟨h3, h4⟩, by omega⟩
theorem ygb (r : Int × Int) : impl_isRat r = some (isRat r) := by
 unfold impl_isRat isRat
 simp only [yna, Option.bind_some]
 cases h1 : inB 1 1000000000 r.2
 ·rfl
 ·cases h2 : inB (-1000000000) 1000000000 r.1
  ·rfl
  ·have h1' := inB_iff.1 h1
   have h2' := inB_iff.1 h2
   simp only [if_true, yoa r.1 r.2 (by omega) (by omega) (by omega) (by omega), Option.bind_some, Bool.true_and]
theorem yrb (r : Int × Int) : spec_raGood r = some (isRat r) := by
 unfold spec_raGood isRat
 simp only [yka, Option.bind_some]
 cases h1 : inB 1 1000000000 r.2
 ·rfl
 ·cases h2 : inB (-1000000000) 1000000000 r.1
  ·rfl
  ·have h1' := inB_iff.1 h1
   have h2' := inB_iff.1 h2
   simp only [if_true, yua r.1 (by omega) (by omega), yfb _ r.2 (Int.natCast_nonneg _) (by omega), Option.bind_some, Bool.true_and]
   rfl
theorem ywa (l : List (Int × Int)) (hl : l.length ≤ 4611686018427387904) : impl_areRats l = some (l.all isRat) := by
 have h := loop_any (xs := l) (body := impl_areRats_b1 l) (fun x => !isRat x) (fun i => (i : Int)) (.inl false) (.inr ()) (fun i x hx => by
  have hi := getElem?_lt hx
  simp only [impl_areRats_b1, idxO_nat, hx, ygb, Option.bind_some, w64_nat (show i < 9223372036854775807 by omega), show ((i : Int) < (l.length : Int)) from by omega, decide_true, if_true]
  cases isRat x <;> rfl) (by simp [impl_areRats_b1])
 unfold impl_areRats
 rw [show (0 : Int) = ((0 : Nat) : Int) from rfl, h, List.any_eq_not_all_not]
 simp only [Bool.not_not]
 cases l.all isRat <;> rfl
def lowest (n d : Int) : (Int × Int) × Bool :=
 let g := if d < 0 then -(Int.gcd n d : Int) else Int.gcd n d
 if isRat (Int.tdiv n g, Int.tdiv d g) then ((Int.tdiv n g, Int.tdiv d g), true) else ((0, 0), false)
theorem tdiv_w64 (n g : Int) (h : -9223372036854775808 < n) (h2 : n ≤ 9223372036854775807) (hg : g ≠ 0) : w64 (Int.tdiv n g) = Int.tdiv n g := by
 have h1 : (Int.tdiv n g).natAbs ≤ n.natAbs := by rw [Int.natAbs_tdiv]; exact Nat.div_le_self _ _
 exact w64_id (by omega) (by omega)
theorem yya (n d : Int) (hd : d ≠ 0) (h : -9223372036854775808 < n) (h2 : n ≤ 9223372036854775807) (h3 : -9223372036854775808 < d) (h4 : d ≤ 9223372036854775807) : impl_lowest n d = some (lowest n d) := by
 have hg0 : Int.gcd n d ≠ 0 := by rw [Ne, Int.gcd_eq_zero_iff]; omega
 have hgl : (Int.gcd n d : Int) ≤ 9223372036854775807 := by
  have : Int.gcd n d ≤ d.natAbs := Nat.gcd_le_right _ (by omega)
  omega
 have key : ∀ g : Int, g ≠ 0 → impl_lowest_k1 n d g = some (if isRat (Int.tdiv n g, Int.tdiv d g) then ((Int.tdiv n g, Int.tdiv d g), true) else ((0, 0), false)) := fun g hg => by
  simp only [impl_lowest_k1, guardO_bind_pos hg, tdiv_w64 n g h h2 hg, tdiv_w64 d g h3 h4 hg, ygb, Option.bind_some]
  cases isRat (Int.tdiv n g, Int.tdiv d g) <;> rfl
 unfold impl_lowest lowest
 simp only [yoa n d h h2 h3 h4, Option.bind_some]
 by_cases hneg : d < 0
 ·simp only [hneg, decide_true, if_true]
  rw [show (0 : Int) - (Int.gcd n d : Int) = -(Int.gcd n d : Int) by omega, w64_id (by omega) (by omega), key _ (by omega)]
 ·simp only [hneg, decide_false, Bool.false_eq_true, if_false]
  rw [key _ (by omega)]
theorem mul_le_9 {a b : Int} (ha : -1000000000 ≤ a) (ha2 : a ≤ 1000000000) (hb : -1000000000 ≤ b) (hb2 : b ≤ 1000000000) : -1000000000000000000 ≤ a * b ∧ a * b ≤ 1000000000000000000 := by
 have h1 : (a * b).natAbs ≤ 1000000000 * 1000000000 := by
  rw [Int.natAbs_mul]; exact Nat.mul_le_mul (by omega) (by omega)
 omega
theorem ytc (a b : Int × Int) : impl_AddRats a b = some (if isRat a && isRat b then lowest (a.1 * b.2 + b.1 * a.2) (a.2 * b.2) else ((0, 0), false)) := by
 unfold impl_AddRats
 rw [ywa _ (by simp)]
 simp only [Option.bind_some, List.all_cons, List.all_nil, Bool.and_true]
 cases ha : isRat a
 ·rfl
 ·cases hb : isRat b
  ·rfl
  ·obtain ⟨a1, a2, a3, a4, _⟩ := isRat_iff.1 ha
   obtain ⟨b1, b2, b3, b4, _⟩ := isRat_iff.1 hb
   have m1 := mul_le_9 a3 a4 (show -1000000000 ≤ b.2 by omega) b2
   have m2 := mul_le_9 b3 b4 (show -1000000000 ≤ a.2 by omega) a2
   have m3 := mul_le_9 (show -1000000000 ≤ a.2 by omega) a2 (show -1000000000 ≤ b.2 by omega) b2
   have hne : a.2 * b.2 ≠ 0 := Int.mul_ne_zero (by omega) (by omega)
   simp only [Bool.and_self, Bool.not_true, Bool.false_eq_true, if_false, if_true]
   rw [w64_id (n := a.1 * b.2) (by omega) (by omega), w64_id (n := b.1 * a.2) (by omega) (by omega), w64_id (n := a.1 * b.2 + b.1 * a.2) (by omega) (by omega), w64_id (n := a.2 * b.2) (by omega) (by omega), yya _ _ hne (by omega) (by omega) (by omega) (by omega)]
   rfl
def near (r : Int × Int) : Bool := isRat r && inB (-1000 * r.2) (1000 * r.2) r.1
def cmp (a b : Int × Int) : Int := if a.1 * b.2 < b.1 * a.2 then -1 else if a.1 * b.2 > b.1 * a.2 then 1 else 0
def tame (r : Int × Int) : Prop := -1000000000 ≤ r.1 ∧ r.1 ≤ 1000000000 ∧ -1000000000 ≤ r.2 ∧ r.2 ≤ 1000000000
theorem tame_of {r : Int × Int} (h : isRat r = true) : tame r := by
 obtain ⟨h1, h2, h3, h4, _⟩ := isRat_iff.1 h
 exact ⟨h3, h4, by omega, h2⟩
theorem ypa (a b : Int × Int) (ha : tame a) (hb : tame b) : impl_compare a b = some (cmp a b) := by
 obtain ⟨a1, a2, a3, a4⟩ := ha
 obtain ⟨b1, b2, b3, b4⟩ := hb
 have m1 := mul_le_9 a1 a2 b3 b4
 have m2 := mul_le_9 b1 b2 a3 a4
 unfold impl_compare cmp
 rw [w64_id (n := a.1 * b.2) (by omega) (by omega), w64_id (n := b.1 * a.2) (by omega) (by omega)]
 by_cases h1 : a.1 * b.2 < b.1 * a.2
 ·simp [h1]
 ·by_cases h2 : a.1 * b.2 > b.1 * a.2
  ·simp [h1, h2]
  ·simp [h1, h2]
def less (a b : Int × Int) : Bool := decide (a.1 * b.2 < b.1 * a.2)
theorem yla (a b : Int × Int) (ha : tame a) (hb : tame b) : impl_less a b = some (less a b) := by
 unfold impl_less less
 rw [ypa a b ha hb]
 unfold cmp
 by_cases h1 : a.1 * b.2 < b.1 * a.2
 ·simp [h1]
 ·by_cases h2 : a.1 * b.2 > b.1 * a.2
  ·simp [h1, h2]
  ·simp [h1, h2]
def floorDiv (n d : Int) : Int := if Int.tmod n d < 0 then Int.tdiv n d - 1 else Int.tdiv n d
theorem yud (n d : Int) : (Int.tdiv n d).natAbs ≤ n.natAbs := by rw [Int.natAbs_tdiv]; exact Nat.div_le_self _ _
def reduceRat (r : Int × Int) : (Int × Int) × Bool := if near r then ((r.1 - floorDiv r.1 r.2 * r.2, r.2), true) else ((0, 0), false)
end Go.PV

set_option linter.all false
namespace Go.PV
abbrev Pt := (Int × Int) × (Int × Int)
def zP : Pt := ((0, 0), (0, 0))
theorem yga (xs : List Pt) (f : Pt → Option Bool) (p : Pt → Bool) (hf : ∀ x, f x = some (p x)) (hl : xs.length ≤ 4611686018427387904) :
  slices_IndexFunc_Limpl_Point_impl_Point xs f = some (match xs.findIdx? p with | some i => (i : Int) | none => -1) := by
 have h := loop_first (xs := xs) (body := slices_IndexFunc_Limpl_Point_impl_Point_b1 xs f) p (fun i => (i : Int)) (fun i => .inl (i : Int)) (.inr ()) (fun i x hx => by
  have hi := getElem?_lt hx
  simp only [slices_IndexFunc_Limpl_Point_impl_Point_b1, idxO_nat, hx, hf, Option.bind_some, w64_nat (show i < 9223372036854775807 by omega), show ((i : Int) < (xs.length : Int)) from by omega, decide_true, if_true]
  cases p x <;> rfl) (by simp [slices_IndexFunc_Limpl_Point_impl_Point_b1])
 unfold slices_IndexFunc_Limpl_Point_impl_Point
 rw [show (0 : Int) = ((0 : Nat) : Int) from rfl, h]
 cases xs.findIdx? p <;> rfl
theorem yea (xs : List Pt) (f : Pt → Option Bool) (p : Pt → Bool) (hf : ∀ x, f x = some (p x)) (hl : xs.length ≤ 4611686018427387904) : slices_ContainsFunc_Limpl_Point_impl_Point xs f = some (xs.any p) := by
 simp only [slices_ContainsFunc_Limpl_Point_impl_Point, yga xs f p hf hl, Option.bind_some]
 cases h : xs.findIdx? p with
 | none =>
  have hn := List.findIdx?_eq_none_iff.1 h
  have : xs.any p = false := by simpa using hn
  simp [this]
 | some m =>
  obtain ⟨hm, hp, _⟩ := List.findIdx?_eq_some_iff_getElem.1 h
  have : xs.any p = true := List.any_eq_true.2 ⟨xs[m], List.getElem_mem hm, hp⟩
  simp [this]
theorem yba (a b : Int × Int) (ha : tame a) (hb : tame b) : spec_raCmp a b = some (cmp a b) := by
 obtain ⟨a1, a2, a3, a4⟩ := ha
 obtain ⟨b1, b2, b3, b4⟩ := hb
 have m1 := mul_le_9 a1 a2 b3 b4
 have m2 := mul_le_9 b1 b2 a3 a4
 unfold spec_raCmp spec_l1Sign cmp
 rw [w64_id (n := a.1 * b.2) (by omega) (by omega), w64_id (n := b.1 * a.2) (by omega) (by omega), w64_id (n := a.1 * b.2 - b.1 * a.2) (by omega) (by omega)]
 by_cases h1 : a.1 * b.2 < b.1 * a.2
 ·have : ¬ (a.1 * b.2 - b.1 * a.2 > 0) := by omega
  have h3 : a.1 * b.2 - b.1 * a.2 < 0 := by omega
  simp [h1, h3]; omega
 ·by_cases h2 : a.1 * b.2 > b.1 * a.2
  ·have : a.1 * b.2 - b.1 * a.2 > 0 := by omega
   simp [h1, h2, this]
  ·have h3 : ¬ (a.1 * b.2 - b.1 * a.2 > 0) := by omega
   have h4 : ¬ (a.1 * b.2 - b.1 * a.2 < 0) := by omega
   simp [h1, h2, h3, h4]
theorem cmp_ge (a b : Int × Int) : decide (cmp a b ≥ 0) = !less a b := by
 unfold cmp less
 by_cases h1 : a.1 * b.2 < b.1 * a.2
 ·simp [h1]
 ·by_cases h2 : a.1 * b.2 > b.1 * a.2 <;> simp [h1, h2]
theorem cmp_gt (a b : Int × Int) : decide (cmp a b > 0) = less b a := by
 unfold cmp less
 by_cases h1 : a.1 * b.2 < b.1 * a.2
 ·have : ¬ b.1 * a.2 < a.1 * b.2 := by omega
  simp [h1, this]
 ·by_cases h2 : a.1 * b.2 > b.1 * a.2
  ·simp [h1, h2]
  ·have : ¬ b.1 * a.2 < a.1 * b.2 := by omega
   simp [h1, h2]
theorem cmp_zero (a b : Int × Int) : (cmp a b == 0) = (a.1 * b.2 == b.1 * a.2) := by
 unfold cmp
 by_cases h1 : a.1 * b.2 < b.1 * a.2
 ·have : ¬ a.1 * b.2 = b.1 * a.2 := by omega
  simp [h1, this]
 ·by_cases h2 : a.1 * b.2 > b.1 * a.2
  ·have : ¬ a.1 * b.2 = b.1 * a.2 := by omega
   simp [h1, h2, this]
  ·have : a.1 * b.2 = b.1 * a.2 := by omega
   simp [this]
def isUnit (r : Int × Int) : Bool := isRat r && inB 0 r.2 r.1
def coord (r : Int × Int) : Bool := isUnit r && decide (r.2 ≤ 100)
theorem ygd (r : Int × Int) : spec_raUnit r = some (isUnit r) := by
 unfold spec_raUnit isUnit
 simp only [yrb, Option.bind_some, yka]
 cases isRat r <;> simp
theorem yhd (r : Int × Int) : impl_isUnit r = some (isUnit r) := by
 simp [impl_isUnit, ygb, isUnit, inB]
theorem yuc (r : Int × Int) : spec_imCoord r = some (coord r) := by simp [spec_imCoord, ygd, coord]
theorem yvc (r : Int × Int) : impl_isCoord r = some (coord r) := by simp [impl_isCoord, yhd, coord]
theorem yfa {r : Int × Int} (h : coord r = true) : isRat r = true := by
 simp only [coord, isUnit, Bool.and_eq_true] at h
 exact h.1.1
def goodPt (p : Pt) : Bool := coord p.1 && (isRat p.2 && (decide (p.2.2 ≤ 100) && inB (-5 * p.2.2) (5 * p.2.2) p.2.1))
def stepPt (a b : Pt) : Bool := less a.1 b.1 && !less b.2 a.2
def steps (xs : List Pt) (n : Nat) : Prop := ∀ i a b, 0 < i → i < n → xs[i - 1]? = some a → xs[i]? = some b → stepPt a b = true
def ends (xs : List Pt) : Bool := match xs[0]?, xs[xs.length - 1]? with
 | some a, some b => (a.1 == (0, 1)) && ((b.1 == (1, 1)) && (b.2 == (a.2.1 + a.2.2, a.2.2)))
 | _, _ => false
open Classical in
noncomputable def isLift (xs : List Pt) : Bool := inB 2 12 xs.length && (decide (xs.all goodPt = true ∧ steps xs xs.length) && ends xs)
end Go.PV

/-
 Plain laws: lists and tables by their places.
 Conditions: none.
-/
namespace Go.PV
section
variable {α β : Type}
def tab (n : Nat) (f : Nat → α) : List α := (List.range n).map f
theorem tab_len (n : Nat) (f : Nat → α) : (tab n f).length = n := by simp [tab]
theorem tab_get {n i : Nat} {f : Nat → α} (h : i < n) : (tab n f)[i]? = some (f i) := by simp [tab, h]
theorem ypb {n i : Nat} {f : Nat → α} (h : n ≤ i) : (tab n f)[i]? = none := by simp [tab, h]
theorem idxO_tab {n i : Nat} {f : Nat → α} (h : i < n) : idxO (tab n f) (i : Int) = some (f i) := by rw [idxO_nat, tab_get h]
theorem tab_ext {n : Nat} {f g : Nat → α} (h : ∀ i, i < n → f i = g i) : tab n f = tab n g := List.map_congr_left fun i hi => h i (List.mem_range.1 hi)
theorem tab_set {n i : Nat} {f : Nat → α} {v : α} (h : i < n) : (tab n f).set i v = tab n (fun k => if k = i then v else f k) := by
 apply List.ext_getElem?
 intro j
 rw [List.getElem?_set]
 by_cases hij : i = j
 ·subst hij
  rw [if_pos rfl, if_pos (by rw [tab_len]; exact h), tab_get h, if_pos rfl]
 ·rw [if_neg hij]
  by_cases hj : j < n
  ·rw [tab_get hj, tab_get hj, if_neg (Ne.symm hij)]
  ·rw [ypb (by omega), ypb (by omega)]
theorem tab_succ (n : Nat) (f : Nat → α) : tab n f ++ [f n] = tab (n + 1) f := by simp [tab, List.range_succ]
theorem tab_zero (f : Nat → α) : tab 0 f = [] := rfl
theorem tab_eta [Inhabited α] (xs : List α) : xs = tab xs.length (fun i => xs.getD i default) := by
 apply List.ext_getElem?
 intro j
 by_cases hj : j < xs.length
 ·rw [tab_get hj]; simp [hj]
 ·rw [ypb (by omega)]; simp; omega
theorem tab_mem {n : Nat} {f : Nat → α} {x : α} : x ∈ tab n f ↔ ∃ i, i < n ∧ f i = x := by simp [tab]
def mat (n m : Nat) (f : Nat → Nat → α) : List (List α) := tab n fun i => tab m (f i)
def foldN (n : Nat) (g : β → Nat → β) (s : β) : β := (List.range n).foldl g s
theorem yvd (n : Nat) (g : β → Nat → β) (s : β) : foldN (n + 1) g s = g (foldN n g s) n := by simp [foldN, List.range_succ]
theorem yye (g : β → Nat → β) (s : β) : foldN 0 g s = s := rfl
end
end Go.PV

/-
 Plain laws: graphs, numbers of walks.
 Conditions: none.
-/
namespace Go.PV
def sized (g : List (List Int)) : Prop := g.length ≤ 1048576 ∧ ∀ row ∈ g, row.length ≤ 1048576
def isGraph (g : List (List Int)) : Bool := inB 1 8 g.length && g.all fun row => (row.length : Int) == g.length && row.all (inB 0 9)
end Go.PV

/-
 Plain laws: powers of graphs' tables, numbers of all walks.
 Conditions: none.
-/
namespace Go.PV
def capMul (most acc w a : Int) : Int := if most < w64 (acc + w64 (w * a)) then most else w64 (acc + w64 (w * a))
def powStep (n : Nat) (G : Nat → Nat → Int) (most : Int) (F : Nat → Nat → Int) : Nat → Nat → Int := fun i j => foldN n (fun acc k => capMul most acc (F i k) (G k j)) 0
def idM : Nat → Nat → Int := fun i j => if i = j then 1 else 0
def powN (n : Nat) (G : Nat → Nat → Int) (most : Int) : Nat → Nat → Nat → Int
 | 0 => idM
 | m + 1 => powStep n G most (powN n G most m)
section impl
variable {n : Nat} {G : Nat → Nat → Int} {most : Int}
end impl
section spec
variable {n : Nat} {G : Nat → Nat → Int}
end spec
def capAt (x : Int) : Int := if 1000000001 < x then 1000000001 else x
def total (g : List (List Int)) : Int := (g.map List.sum).sum
def totalWalks (g : List (List Int)) (m : Int) : Int × Bool :=
 if isGraph g && inB 0 12 m then
  let t := total (mat g.length g.length (powN g.length (fun i j => (g.getD i []).getD j 0) 1000000001 m.toNat))
  if t > 1000000000 then (0, false) else (t, true)
 else (0, false)
end Go.PV

set_option linter.all false
namespace Go.PV
theorem yhe {n d : Int} (h1 : 0 ≤ n) (h2 : n ≤ 1000000000) (h3 : 1 ≤ d) (h4 : d ≤ 1000000000) : isRat (lowest n d).1 = true := by
 have hg : 0 < Int.gcd n d := Int.gcd_pos_of_ne_zero_right _ (by omega)
 have key : isRat (Int.tdiv n (Int.gcd n d : Int), Int.tdiv d (Int.gcd n d : Int)) = true := by
  obtain ⟨a, rfl⟩ := Int.eq_ofNat_of_zero_le h1
  obtain ⟨b, rfl⟩ := Int.eq_ofNat_of_zero_le (show 0 ≤ d by omega)
  have e : Int.gcd (a : Int) (b : Int) = Nat.gcd a b := rfl
  rw [e] at hg ⊢
  have e1 : Int.tdiv (a : Int) ((Nat.gcd a b : Nat) : Int) = ((a / Nat.gcd a b : Nat) : Int) := by rw [Int.tdiv_eq_ediv_of_nonneg (by omega)]; rfl
  have e2 : Int.tdiv (b : Int) ((Nat.gcd a b : Nat) : Int) = ((b / Nat.gcd a b : Nat) : Int) := by rw [Int.tdiv_eq_ediv_of_nonneg (by omega)]; rfl
  rw [e1, e2, isRat_iff]
  have l1 : a / Nat.gcd a b ≤ a := Nat.div_le_self _ _
  have l2 : b / Nat.gcd a b ≤ b := Nat.div_le_self _ _
  have l3 : 0 < b / Nat.gcd a b := Nat.div_pos (Nat.le_of_dvd (by omega) (Nat.gcd_dvd_right a b)) hg
  have l4 : ((a / Nat.gcd a b : Nat) : Int) ≤ 1000000000 := by omega
  have l5 : ((b / Nat.gcd a b : Nat) : Int) ≤ 1000000000 := by omega
  have l6 : 1 ≤ ((b / Nat.gcd a b : Nat) : Int) := by omega
  have l7 : 0 ≤ ((a / Nat.gcd a b : Nat) : Int) := Int.natCast_nonneg _
  generalize hA : ((a / Nat.gcd a b : Nat) : Int) = A at l4 l7 ⊢
  generalize hB : ((b / Nat.gcd a b : Nat) : Int) = B at l5 l6 ⊢
  refine ⟨l6, l5, by show -1000000000 ≤ A; omega, l4, ?_⟩
  rw [← hA, ← hB]
  exact Nat.coprime_div_gcd_div_gcd hg
 have hdn : ¬ d < 0 := by omega
 unfold lowest
 simp only [if_neg hdn]
 rw [if_pos key]
 exact key
theorem cmp_same {a b : Int × Int} (ha : isRat a = true) (hb : isRat b = true) (h : a.1 * b.2 = b.1 * a.2) : a = b := by
 obtain ⟨a1, a2, a3, a4, a5⟩ := isRat_iff.1 ha
 obtain ⟨b1, b2, b3, b4, b5⟩ := isRat_iff.1 hb
 obtain ⟨p, q⟩ := a
 obtain ⟨r, s⟩ := b
 simp only at *
 have hn : p.natAbs * s.natAbs = r.natAbs * q.natAbs := by rw [← Int.natAbs_mul, ← Int.natAbs_mul, h]
 have c1 : Nat.Coprime p.natAbs q.natAbs := a5
 have c2 : Nat.Coprime r.natAbs s.natAbs := b5
 have d1 : s.natAbs ∣ q.natAbs := by
  have : s.natAbs ∣ r.natAbs * q.natAbs := ⟨p.natAbs, by rw [← hn]; exact Nat.mul_comm _ _⟩
  exact c2.symm.dvd_of_dvd_mul_left this
 have d2 : q.natAbs ∣ s.natAbs := by
  have : q.natAbs ∣ p.natAbs * s.natAbs := ⟨r.natAbs, by rw [hn]; exact Nat.mul_comm _ _⟩
  exact c1.symm.dvd_of_dvd_mul_left this
 have hqs : q.natAbs = s.natAbs := Nat.dvd_antisymm d2 d1
 have hq : q = s := by omega
 subst hq
 have : p = r := Int.eq_of_mul_eq_mul_right (by omega) h
 rw [this]
def dotN (G : Nat → Int) (v : Nat → Int) (n : Nat) : Int := foldN n (fun s j => s + G j * v j) 0
end Go.PV

/-
 Plain laws: sums, products and quotients of fractions, with what is too large told.
 Conditions: none.
-/
set_option linter.all false
namespace Go.PV
abbrev Rt := Int × Int
def unO : Option Rt → Rt × Bool
 | some r => (r, true)
 | none => ((0, 0), false)
def lowQ (n d : Int) : Option Rt := if (lowest n d).2 = true then some (lowest n d).1 else none
theorem ybd (n d : Int) : ∃ x : Rt, lowest n d = if isRat x = true then (x, true) else ((0, 0), false) := ⟨_, rfl⟩
theorem ydf {n d : Int} (h : (lowest n d).2 = false) : lowest n d = ((0, 0), false) := by
 obtain ⟨x, e⟩ := ybd n d
 rw [e] at h ⊢
 by_cases h2 : isRat x = true
 ·rw [if_pos h2] at h; cases h
 ·rw [if_neg h2]
theorem ysb (n d : Int) : lowest n d = unO (lowQ n d) := by
 unfold lowQ
 cases h : (lowest n d).2
 ·rw [ydf h]; rfl
 ·have : lowest n d = ((lowest n d).1, (lowest n d).2) := rfl
  rw [this, h]; rfl
theorem yze {n d : Int} (h : (lowest n d).2 = true) : isRat (lowest n d).1 = true := by
 obtain ⟨x, e⟩ := ybd n d
 rw [e] at h ⊢
 by_cases h2 : isRat x = true
 ·rw [if_pos h2]; exact h2
 ·rw [if_neg h2] at h; cases h
theorem lowQ_rat {n d : Int} {r : Rt} (h : lowQ n d = some r) : isRat r = true := by
 unfold lowQ at h
 split at h
 ·rename_i h2; obtain rfl := Option.some.inj h; exact yze h2
 ·cases h
theorem yda (n d : Int) (hd : d ≠ 0) (h1 : -4000000000000000000 ≤ n) (h2 : n ≤ 4000000000000000000) (h3 : -4000000000000000000 ≤ d) (h4 : d ≤ 4000000000000000000) : spec_raMake n d = some (unO (lowQ n d)) := by
 have hg : 0 < Int.gcd n d := Int.gcd_pos_of_ne_zero_right _ hd
 have hd0 : (d == 0) = false := by simpa using hd
 have hgl : (Int.gcd n d : Int) ≤ 4000000000000000000 := by
  have : Int.gcd n d ≤ d.natAbs := Nat.gcd_le_right _ (by omega)
  omega
 have e : Int.gcd (n.natAbs : Int) (d.natAbs : Int) = Int.gcd n d := rfl
 have key : ∀ g : Int, g ≠ 0 → spec_raMake_k1 n d g = some (if isRat (Int.tdiv n g, Int.tdiv d g) then ((Int.tdiv n g, Int.tdiv d g), true) else ((0, 0), false)) := fun g hg => by
  simp only [spec_raMake_k1, guardO_bind_pos hg, tdiv_w64 n g (by omega) (by omega) hg, tdiv_w64 d g (by omega) (by omega) hg, yrb, Option.bind_some]
  cases isRat (Int.tdiv n g, Int.tdiv d g) <;> rfl
 rw [← ysb]
 unfold spec_raMake lowest
 simp only [hd0, Bool.false_eq_true, if_false, yua n (by omega) (by omega), yua d (by omega) (by omega), Option.bind_some, yfb (n.natAbs : Int) (d.natAbs : Int) (by omega) (by omega), e]
 by_cases hneg : d < 0
 ·simp only [hneg, decide_true, if_true]
  rw [show (0 : Int) - (Int.gcd n d : Int) = -(Int.gcd n d : Int) by omega, w64_id (by omega) (by omega), key _ (by omega)]
 ·simp only [hneg, decide_false, Bool.false_eq_true, if_false]
  rw [key _ (by omega)]
def addQ (a b : Rt) : Option Rt := lowQ (a.1 * b.2 + b.1 * a.2) (a.2 * b.2)
def subQ (a b : Rt) : Option Rt := lowQ (a.1 * b.2 - b.1 * a.2) (a.2 * b.2)
def mulQ (a b : Rt) : Option Rt := lowQ (a.1 * b.1) (a.2 * b.2)
def divQ (a b : Rt) : Option Rt := if b.1 = 0 then none else lowQ (a.1 * b.2) (a.2 * b.1)
theorem addQ_rat {a b r : Rt} (h : addQ a b = some r) : isRat r = true := lowQ_rat h
theorem subQ_rat {a b r : Rt} (h : subQ a b = some r) : isRat r = true := lowQ_rat h
theorem mulQ_rat {a b r : Rt} (h : mulQ a b = some r) : isRat r = true := lowQ_rat h
structure RB (a b : Rt) : Prop where
 m1 : -1000000000000000000 ≤ a.1 * b.2 ∧ a.1 * b.2 ≤ 1000000000000000000
 m2 : -1000000000000000000 ≤ b.1 * a.2 ∧ b.1 * a.2 ≤ 1000000000000000000
 m3 : -1000000000000000000 ≤ a.2 * b.2 ∧ a.2 * b.2 ≤ 1000000000000000000
 m4 : -1000000000000000000 ≤ a.1 * b.1 ∧ a.1 * b.1 ≤ 1000000000000000000
 ne : a.2 * b.2 ≠ 0
 m5 : -1000000000000000000 ≤ a.2 * b.1 ∧ a.2 * b.1 ≤ 1000000000000000000
theorem rb {a b : Rt} (ha : isRat a = true) (hb : isRat b = true) : RB a b := by
 obtain ⟨a1, a2, a3, a4, _⟩ := isRat_iff.1 ha
 obtain ⟨b1, b2, b3, b4, _⟩ := isRat_iff.1 hb
 exact ⟨mul_le_9 a3 a4 (by omega) b2, mul_le_9 b3 b4 (by omega) a2, mul_le_9 (by omega) a2 (by omega) b2, mul_le_9 a3 a4 b3 b4, Int.mul_ne_zero (by omega) (by omega), mul_le_9 (by omega) a2 b3 b4⟩
section spec
variable {a b : Rt} (ha : isRat a = true) (hb : isRat b = true)
include ha hb
theorem ycc : spec_raAdd a b = some (unO (addQ a b)) := by
 obtain ⟨m1, m2, m3, m4, ne, m5⟩ := rb ha hb
 unfold spec_raAdd addQ
 rw [w64_id (n := a.1 * b.2) (by omega) (by omega), w64_id (n := b.1 * a.2) (by omega) (by omega), w64_id (n := a.2 * b.2) (by omega) (by omega), w64_id (by omega) (by omega), yda _ _ ne (by omega) (by omega) (by omega) (by omega)]
 rfl
theorem yva : spec_raSub a b = some (unO (subQ a b)) := by
 obtain ⟨m1, m2, m3, m4, ne, m5⟩ := rb ha hb
 unfold spec_raSub subQ
 rw [w64_id (n := a.1 * b.2) (by omega) (by omega), w64_id (n := b.1 * a.2) (by omega) (by omega), w64_id (n := a.2 * b.2) (by omega) (by omega), w64_id (by omega) (by omega), yda _ _ ne (by omega) (by omega) (by omega) (by omega)]
 rfl
theorem ywd : spec_raMul a b = some (unO (mulQ a b)) := by
 obtain ⟨m1, m2, m3, m4, ne, m5⟩ := rb ha hb
 unfold spec_raMul mulQ
 rw [w64_id (n := a.1 * b.1) (by omega) (by omega), w64_id (n := a.2 * b.2) (by omega) (by omega), yda _ _ ne (by omega) (by omega) (by omega) (by omega)]
 rfl
theorem yxd : spec_raDiv a b = some (unO (divQ a b)) := by
 obtain ⟨m1, m2, m3, m4, ne, m5⟩ := rb ha hb
 obtain ⟨a1, _⟩ := isRat_iff.1 ha
 unfold spec_raDiv divQ
 by_cases h : b.1 = 0
 ·simp [h, unO]
 ·have h' : (b.1 == 0) = false := by simpa using h
  simp only [h', Bool.false_eq_true, if_false, h]
  rw [w64_id (n := a.1 * b.2) (by omega) (by omega), w64_id (n := a.2 * b.1) (by omega) (by omega), yda _ _ (Int.mul_ne_zero (by omega) h) (by omega) (by omega) (by omega) (by omega)]
  rfl
end spec
def cK (bad : Bool) : Option Rt → Rt × Bool
 | some r => (r, bad)
 | none => ((0, 1), true)
theorem yza (bad : Bool) (o : Option Rt) : impl_calc_keep bad (unO o).1 (unO o).2 = some (cK bad o) := by
 cases o <;> simp [impl_calc_keep, unO, cK, impl_zero]
theorem cK_rat {bad : Bool} {o : Option Rt} (h : ∀ r, o = some r → isRat r = true) : isRat (cK bad o).1 = true := by
 cases o with
 | some r => exact h r rfl
 | none => exact (by decide : isRat (0, 1) = true)
theorem yef : isRat (1, 1) = true := by decide
theorem ykc {a : Rt} (h : isRat a = true) : isRat (0 - a.1, a.2) = true := by
 obtain ⟨h1, h2, h3, h4, h5⟩ := isRat_iff.1 h
 refine isRat_iff.2 ⟨h1, h2, by show -1000000000 ≤ 0 - a.1; omega, by show 0 - a.1 ≤ _; omega, ?_⟩
 show Int.gcd (0 - a.1) a.2 = 1
 rw [Int.zero_sub, Int.neg_gcd]; exact h5
section impl
variable {a b : Rt} (bad : Bool) (ha : isRat a = true) (hb : isRat b = true)
include ha hb
theorem ytb : impl_AddRats a b = some (unO (addQ a b)) := by
 rw [ytc, ha, hb]
 simp only [Bool.and_self, if_true]
 rw [ysb]; rfl
theorem yub : impl_SubtractRats a b = some (unO (subQ a b)) := by
 obtain ⟨b1, b2, b3, b4, _⟩ := isRat_iff.1 hb
 unfold impl_SubtractRats impl_negated
 rw [w64_id (by omega) (by omega), Option.bind_some, ytb ha (ykc hb), Option.bind_some]
 congr 2
 unfold addQ subQ
 simp only
 congr 1
 rw [Int.sub_mul]; omega
theorem yvb : impl_MultiplyRats a b = some (unO (mulQ a b)) := by
 obtain ⟨m1, m2, m3, m4, ne, m5⟩ := rb ha hb
 unfold impl_MultiplyRats mulQ
 rw [ywa _ (by simp)]
 simp only [Option.bind_some, List.all_cons, List.all_nil, Bool.and_true, ha, hb, Bool.and_self, Bool.not_true, Bool.false_eq_true, if_false]
 rw [w64_id (n := a.1 * b.1) (by omega) (by omega), w64_id (n := a.2 * b.2) (by omega) (by omega), yya _ _ ne (by omega) (by omega) (by omega) (by omega), ysb]
 rfl
theorem ygc : impl_DivideRats a b = some (unO (divQ a b)) := by
 obtain ⟨m1, m2, m3, m4, ne, m5⟩ := rb ha hb
 obtain ⟨a1, _⟩ := isRat_iff.1 ha
 unfold impl_DivideRats divQ
 rw [ywa _ (by simp)]
 simp only [Option.bind_some, List.all_cons, List.all_nil, Bool.and_true, ha, hb, Bool.and_self, Bool.not_true, Bool.false_or]
 by_cases h : b.1 = 0
 ·simp [h, unO]
 ·have h' : (b.1 == 0) = false := by simpa using h
  simp only [h', Bool.false_eq_true, if_false, h]
  rw [w64_id (n := a.1 * b.2) (by omega) (by omega), w64_id (n := a.2 * b.1) (by omega) (by omega), yya _ _ (Int.mul_ne_zero (by omega) h) (by omega) (by omega) (by omega) (by omega), ysb]
  rfl
theorem ycd : impl_calc_add bad a b = some (cK bad (addQ a b)) := by
 unfold impl_calc_add; rw [ytb ha hb, Option.bind_some, yza]; rfl
theorem yxa : impl_calc_sub bad a b = some (cK bad (subQ a b)) := by
 unfold impl_calc_sub; rw [yub ha hb, Option.bind_some, yza]; rfl
theorem ywe : impl_calc_mul bad a b = some (cK bad (mulQ a b)) := by
 unfold impl_calc_mul; rw [yvb ha hb, Option.bind_some, yza]; rfl
theorem yxe : impl_calc_div bad a b = some (cK bad (divQ a b)) := by
 unfold impl_calc_div; rw [ygc ha hb, Option.bind_some, yza]; rfl
end impl
def absR (r : Rt) : Rt := ((r.1.natAbs : Int), r.2)
def distQ (a b : Rt) : Option Rt := if less a b then subQ b a else subQ a b
theorem yff {a : Rt} (h : isRat a = true) : isRat (absR a) = true := by
 obtain ⟨h1, h2, h3, h4, h5⟩ := isRat_iff.1 h
 exact isRat_iff.2 ⟨h1, h2, by show -1000000000 ≤ (a.1.natAbs : Int); omega, by show (a.1.natAbs : Int) ≤ _; omega, h5⟩
theorem lowQ_neg {n d : Int} (hd : 0 < d) : lowQ (-n) d = (lowQ n d).map fun r => (-r.1, r.2) := by
 have hn : ¬ d < 0 := by omega
 have e : isRat (Int.tdiv (-n) (Int.gcd n d : Int), Int.tdiv d (Int.gcd n d : Int)) = isRat (Int.tdiv n (Int.gcd n d : Int), Int.tdiv d (Int.gcd n d : Int)) := by
  rw [Int.neg_tdiv]
  cases h : isRat (Int.tdiv n (Int.gcd n d : Int), Int.tdiv d (Int.gcd n d : Int))
  ·cases h2 : isRat (-Int.tdiv n (Int.gcd n d : Int), Int.tdiv d (Int.gcd n d : Int))
   ·rfl
   ·have := ykc h2
    simp only [Int.zero_sub, Int.neg_neg] at this
    rw [h] at this; cases this
  ·have := ykc h
   simp only [Int.zero_sub] at this
   exact this
 unfold lowQ lowest
 simp only [Int.neg_gcd, if_neg hn, e]
 cases isRat (Int.tdiv n (Int.gcd n d : Int), Int.tdiv d (Int.gcd n d : Int))
 ·rfl
 ·simp [Int.neg_tdiv]
theorem ydd {n d : Int} (hd : 0 < d) (hn : 0 ≤ n) {r : Rt} (h : lowQ n d = some r) : 0 ≤ r.1 := by
 have hdn : ¬ d < 0 := by omega
 unfold lowQ lowest at h
 simp only [if_neg hdn] at h
 by_cases h2 : isRat (Int.tdiv n (Int.gcd n d : Int), Int.tdiv d (Int.gcd n d : Int)) = true
 ·rw [if_pos h2] at h
  simp only [if_true] at h
  obtain rfl := Option.some.inj h
  exact Int.tdiv_nonneg hn (by omega)
 ·rw [if_neg h2] at h; simp at h
theorem den_pos {a b : Rt} (ha : isRat a = true) (hb : isRat b = true) : 0 < a.2 * b.2 := Int.mul_pos (by have := (isRat_iff.1 ha).1; omega) (by have := (isRat_iff.1 hb).1; omega)
theorem ygf {a b : Rt} (ha : isRat a = true) (hb : isRat b = true) : distQ a b = (subQ b a).map absR := by
 have h0 := den_pos ha hb
 have h0' := den_pos hb ha
 unfold distQ subQ
 cases hl : less a b
 ·simp only [Bool.false_eq_true, if_false]
  have hge : ¬ (a.1 * b.2 < b.1 * a.2) := by simpa [less] using hl
  have e : b.1 * a.2 - a.1 * b.2 = -(a.1 * b.2 - b.1 * a.2) := by omega
  rw [e, Int.mul_comm b.2 a.2, lowQ_neg h0]
  cases hq : lowQ (a.1 * b.2 - b.1 * a.2) (a.2 * b.2) with
  | none => rfl
  | some r =>
   have := ydd h0 (by omega) hq
   simp only [Option.map_some, absR, Int.natAbs_neg]
   congr 1
   ext
   ·show r.1 = (r.1.natAbs : Int); omega
   ·rfl
 ·simp only [if_true]
  have hlt : a.1 * b.2 < b.1 * a.2 := by simpa [less] using hl
  cases hq : lowQ (b.1 * a.2 - a.1 * b.2) (b.2 * a.2) with
  | none => rfl
  | some r =>
   have := ydd h0' (by omega) hq
   simp only [Option.map_some, absR]
   congr 1
   ext
   ·show r.1 = (r.1.natAbs : Int); omega
   ·rfl
theorem yhf {a b r : Rt} (h : distQ a b = some r) : isRat r = true := by
 unfold distQ at h
 split at h <;> exact subQ_rat h
theorem yoc {a b : Rt} (bad : Bool) (ha : isRat a = true) (hb : isRat b = true) : impl_calc_distance bad a b = some (cK bad (distQ a b)) := by
 unfold impl_calc_distance impl_calc_distance_k1 distQ
 rw [yla a b (tame_of ha) (tame_of hb), Option.bind_some]
 cases less a b
 ·simp only [Bool.false_eq_true, if_false]
  rw [yxa bad ha hb]; rfl
 ·simp only [if_true]
  rw [yxa bad hb ha]; rfl
end Go.PV

set_option linter.all false
namespace Go.PV
theorem zero_iff {r : Int × Int} (h : isRat r = true) : (r.1 * 1 == 0 * r.2) = (r == (0, 1)) := by
 obtain ⟨h1, h2, h3, h4, h5⟩ := isRat_iff.1 h
 obtain ⟨n, d⟩ := r
 simp only [Int.mul_one, Int.zero_mul]
 by_cases hn : n = 0
 ·subst hn
  have h6 : d.natAbs = 1 := by simpa using h5
  have h7 : d = 1 := by omega
  subst h7; rfl
 ·have e1 : (n == 0) = false := by simpa using hn
  have e2 : ((n, d) == ((0, 1) : Int × Int)) = false := by simp [hn]
  rw [e1, e2]
theorem one_iff {r : Int × Int} (h : isRat r = true) : (r.1 * 1 == 1 * r.2) = (r == (1, 1)) := by
 obtain ⟨h1, h2, h3, h4, h5⟩ := isRat_iff.1 h
 obtain ⟨n, d⟩ := r
 simp only [Int.mul_one, Int.one_mul]
 by_cases hn : n = d
 ·subst hn
  have h6 : n.natAbs = 1 := by simpa using h5
  have h7 : n = 1 := by omega
  subst h7; rfl
 ·by_cases h6 : n = 1
  ·subst h6; have : ¬ d = 1 := fun e => hn e.symm
   have e1 : ((1 : Int) == d) = false := by simpa using hn
   have e2 : (((1 : Int), d) == ((1, 1) : Int × Int)) = false := by simp [this]
   rw [e1, e2]
  ·have e1 : (n == d) = false := by simpa using hn
   have e2 : ((n, d) == ((1, 1) : Int × Int)) = false := by simp [h6]
   rw [e1, e2]
theorem pair_beq (a b : Int × Int) : ((a.1 == b.1) && (a.2 == b.2)) = (a == b) := by
 obtain ⟨a1, a2⟩ := a; obtain ⟨b1, b2⟩ := b; rfl
end Go.PV

/-
 Plain laws: maps of the interval.
 Conditions: none.
-/
set_option linter.all false
namespace Go.PV
section
variable {α β : Type}
theorem loop_tab {X Y : Type} {body : X → Option (X ⊕ Y)} (n : Nat) (S : List β → Nat → X) (f : Nat → β) (y : Y) (h1 : ∀ i, i < n → body (S (tab i f) i) = some (.inl (S (tab i f ++ [f i]) (i + 1)))) (h2 : body (S (tab n f) n) = some (.inr y)) : loopO body (S [] 0) = some y := by
 have := loop_idx (body := body) n (fun i => S (tab i f) i) y (fun i hi => by rw [h1 i hi, tab_succ]) h2
 rw [tab_zero] at this
 exact this
theorem yid (i : Nat) (f : Nat → β) (x : β) (h : i ≤ 1048576) : (tab i f).length + [x].length ≤ 1099511627776 := by rw [tab_len]; simp; omega
end
def isMapT (n : Nat) (p : Nat → Pt) : Prop := (∀ i, i < n → coord (p i).1 = true ∧ coord (p i).2 = true) ∧ (∀ i, 0 < i → i < n → less (p (i - 1)).1 (p i).1 = true) ∧ (p 0).1 = (0, 1) ∧ (p (n - 1)).1 = (1, 1)
theorem w64_pred {i : Nat} (h : 0 < i) (h2 : i < 4611686018427387904) : w64 ((i : Int) - 1) = ((i - 1 : Nat) : Int) := by rw [w64_id (by omega) (by omega)]; omega
theorem ysa {r : Rt} (h : coord r = true) : tame r := tame_of (yfa h)
theorem yjd {α : Type} {n : Nat} {p : Nat → α} (h : 0 < n) : idxO (tab n p) 0 = some (p 0) := idxO_tab (n := n) (f := p) (i := 0) h
theorem ymb (n : Nat) (p : Nat → Pt) (h2 : 2 ≤ n) (hn : n ≤ 12) : ∃ c, spec_imGood (tab n p) = some c ∧ (c = true ↔ isMapT n p) := by
 obtain ⟨y, h3, h4⟩ := loop_run (body := spec_imGood_b1 (tab n p)) (fun x => ∃ i : Nat, x = (i : Int) ∧ i ≤ n ∧ (∀ j, j < i → coord (p j).1 = true ∧ coord (p j).2 = true) ∧ (∀ j, 0 < j → j < i → less (p (j - 1)).1 (p j).1 = true)) (fun x => n - x.toNat)
  (fun y => (y = .inl false ∧ ¬ isMapT n p) ∨ (y = .inr () ∧ (∀ j, j < n → coord (p j).1 = true ∧ coord (p j).2 = true) ∧ (∀ j, 0 < j → j < n → less (p (j - 1)).1 (p j).1 = true))) (fun x ⟨i, e, hi, hc, hl⟩ => by
   subst e
   by_cases hlt : i < n
   ·simp only [spec_imGood_b1, tab_len, idxO_tab hlt, show ((i : Int) < (n : Int)) from by omega, decide_true, if_true, Option.bind_some, yuc]
    cases h5 : coord (p i).1
    ·right; exact ⟨.inl false, by simp, .inl ⟨rfl, fun h => by have := (h.1 i hlt).1; rw [h5] at this; cases this⟩⟩
    ·cases h6 : coord (p i).2
     ·right; exact ⟨.inl false, by simp, .inl ⟨rfl, fun h => by have := (h.1 i hlt).2; rw [h6] at this; cases this⟩⟩
     ·have hc' : ∀ j, j < i + 1 → coord (p j).1 = true ∧ coord (p j).2 = true := fun j hj => by
       by_cases hji : j < i
       ·exact hc j hji
       ·have : j = i := by omega
        subst this; exact ⟨h5, h6⟩
      by_cases hi0 : i = 0
      ·left
       subst hi0
       exact ⟨((1 : Nat) : Int), by simp [w64_id], ⟨1, rfl, by omega, hc', fun j h1 h2 => by omega⟩, by simp; omega⟩
      ·have hlt2 : i - 1 < n := by omega
       have hpos : ((i : Int) > 0) := by omega
       have ht1 := ysa (hc (i - 1) (by omega)).1
       simp only [hpos, decide_true, if_true, Bool.not_true, Bool.false_eq_true, if_false, w64_pred (show 0 < i by omega) (by omega), idxO_tab hlt2, Option.bind_some, yba _ _ ht1 (ysa h5), cmp_ge]
       cases h7 : less (p (i - 1)).1 (p i).1
       ·right; exact ⟨.inl false, by simp, .inl ⟨rfl, fun h => by have := h.2.1 i (by omega) hlt; rw [h7] at this; cases this⟩⟩
       ·left
        refine ⟨((i + 1 : Nat) : Int), by simp [w64_nat (show i < 9223372036854775807 by omega)], ⟨i + 1, rfl, hlt, hc', fun j h1 h2 => ?_⟩, by simp; omega⟩
        by_cases hji : j < i
        ·exact hl j h1 hji
        ·have : j = i := by omega
         subst this; exact h7
   ·have : i = n := by omega
    subst this
    right
    exact ⟨.inr (), by simp [spec_imGood_b1, tab_len], .inr ⟨rfl, hc, hl⟩⟩) 0 ⟨0, rfl, by omega, fun j h => by omega, fun j _ h => by omega⟩
 have hin : inB 2 12 ((tab n p).length : Int) = true := by rw [tab_len, inB_iff]; omega
 unfold spec_imGood
 rw [yka, Option.bind_some, hin]
 rw [h3]
 rcases h4 with ⟨rfl, h4⟩ | ⟨rfl, h4, h5⟩
 ·exact ⟨false, by simp, by simp [h4]⟩
 ·have hc0 := (h4 0 (by omega)).1
  have hc1 := (h4 (n - 1) (by omega)).1
  have hw : w64 ((n : Int) - 1) = ((n - 1 : Nat) : Int) := w64_pred (by omega) (by omega)
  have t0 : tame (0, 1) := ⟨by decide, by decide, by decide, by decide⟩
  have t1 : tame (1, 1) := ⟨by decide, by decide, by decide, by decide⟩
  simp only [Bool.not_true, Bool.false_eq_true, if_false, Option.bind_some, Sum.elim_inr, spec_imGood_k1, yjd (show 0 < n by omega), spec_raInt, tab_len, hw, idxO_tab (show n - 1 < n by omega), yba _ _ (ysa hc0) t0, yba _ _ (ysa hc1) t1, cmp_zero, zero_iff (yfa hc0), one_iff (yfa hc1)]
  refine ⟨((p 0).1 == (0, 1)) && ((p (n - 1)).1 == (1, 1)), ?_, ?_⟩
  ·cases ((p 0).1 == ((0, 1) : Rt)) <;> simp
  ·simp only [Bool.and_eq_true, beq_iff_eq]
   exact ⟨fun h => ⟨h4, h5, h.1, h.2⟩, fun h => ⟨h.2.2.1, h.2.2.2⟩⟩
theorem ywc (p : Pt) : impl_isMap_1 p = some (!(coord p.1 && coord p.2)) := by
 unfold impl_isMap_1
 simp only [yvc, Option.bind_some]
 cases coord p.1 <;> cases coord p.2 <;> rfl
theorem yyd (n : Nat) (p : Nat → Pt) (hn : n ≤ 1048576) : impl_xsOf (tab n p) = some (tab n fun i => (p i).1) := by
 have hx := loop_tab (body := impl_xsOf_b1 (tab n p)) n (fun l i => (l, (i : Int))) (fun i => (p i).1) (tab n fun i => (p i).1) (fun i hi => by
  simp only [impl_xsOf_b1, tab_len, idxO_tab hi, show ((i : Int) < (n : Int)) from by omega, decide_true, if_true, Option.bind_some, guardO_bind_pos (yid i (fun i => (p i).1) (p i).1 (by omega)), w64_nat (show i < 9223372036854775807 by omega)]
  rw [guardO_bind_pos (by simp; omega)]) (by simp [impl_xsOf_b1, tab_len])
 unfold impl_xsOf
 rw [show (0 : Int) = ((0 : Nat) : Int) from rfl, hx]; rfl
theorem yhc (n : Nat) (r : Nat → Rt) (hn : n ≤ 1048576) (h1 : 1 ≤ n) (hr : ∀ i, i < n → isRat (r i) = true) : ∃ c, impl_isRising (tab n r) = some c ∧ (c = true ↔ ∀ i, 0 < i → i < n → less (r (i - 1)) (r i) = true) := by
 obtain ⟨y, h3, h4⟩ := loop_run (body := impl_isRising_b1 (tab n r)) (fun x => ∃ i : Nat, x = (i : Int) ∧ 1 ≤ i ∧ i ≤ n ∧ (∀ j, 0 < j → j < i → less (r (j - 1)) (r j) = true)) (fun x => n - x.toNat)
  (fun y => (y = .inl false ∧ ¬ ∀ i, 0 < i → i < n → less (r (i - 1)) (r i) = true) ∨ (y = .inr () ∧ ∀ i, 0 < i → i < n → less (r (i - 1)) (r i) = true)) (fun x ⟨i, e, hi0, hi, hl⟩ => by
   subst e
   by_cases hlt : i < n
   ·simp only [impl_isRising_b1, tab_len, idxO_tab hlt, w64_pred (show 0 < i by omega) (by omega), idxO_tab (show i - 1 < n by omega), show ((i : Int) < (n : Int)) from by omega, decide_true, if_true, Option.bind_some, yla _ _ (tame_of (hr (i - 1) (by omega))) (tame_of (hr i hlt))]
    cases h7 : less (r (i - 1)) (r i)
    ·right; exact ⟨.inl false, by simp, .inl ⟨rfl, fun h => by have := h i (by omega) hlt; rw [h7] at this; cases this⟩⟩
    ·left
     refine ⟨((i + 1 : Nat) : Int), by simp [w64_nat (show i < 9223372036854775807 by omega)], ⟨i + 1, rfl, by omega, hlt, fun j h1 h2 => ?_⟩, by simp; omega⟩
     by_cases hji : j < i
     ·exact hl j h1 hji
     ·have : j = i := by omega
      subst this; exact h7
   ·have : i = n := by omega
    subst this
    right
    exact ⟨.inr (), by simp [impl_isRising_b1, tab_len], .inr ⟨rfl, hl⟩⟩) 1 ⟨1, rfl, by omega, by omega, fun j _ h => by omega⟩
 unfold impl_isRising
 rw [h3]
 rcases h4 with ⟨rfl, h4⟩ | ⟨rfl, h4⟩
 ·exact ⟨false, by simp, by simp [h4]⟩
 ·exact ⟨true, by simp [impl_isRising_k1], fun _ => h4, fun _ => rfl⟩
theorem ykd (n : Nat) (p : Nat → Pt) (h2 : 2 ≤ n) (hn : n ≤ 12) : ∃ c, impl_isMap (tab n p) = some c ∧ (c = true ↔ isMapT n p) := by
 have hin : inB 2 12 ((tab n p).length : Int) = true := by rw [tab_len, inB_iff]; omega
 unfold impl_isMap
 rw [yna, Option.bind_some, hin, yea (tab n p) (fun x0 => impl_isMap_1 x0) _ ywc (by rw [tab_len]; omega)]
 simp only [Bool.not_true, Bool.false_eq_true, if_false, Option.bind_some]
 by_cases hc : ∀ i, i < n → coord (p i).1 = true ∧ coord (p i).2 = true
 ·have hany : ((tab n p).any fun q => !(coord q.1 && coord q.2)) = false := by
   rw [List.any_eq_false]
   intro q hq
   obtain ⟨i, hi, rfl⟩ := tab_mem.1 hq
   simp [(hc i hi).1, (hc i hi).2]
  obtain ⟨c, h3, h4⟩ := yhc n (fun i => (p i).1) (by omega) (by omega) (fun i hi => yfa (hc i hi).1)
  have hw : w64 ((n : Int) - 1) = ((n - 1 : Nat) : Int) := w64_pred (by omega) (by omega)
  simp only [hany, Bool.false_eq_true, if_false, yjd (show 0 < n by omega), impl_zero, impl_oneRat, Option.bind_some, tab_len, hw, idxO_tab (show n - 1 < n by omega), yyd n p (by omega), h3, pair_beq (p 0).1 (0, 1), pair_beq (p (n - 1)).1 (1, 1)]
  refine ⟨((p 0).1 == (0, 1)) && (((p (n - 1)).1 == (1, 1)) && c), ?_, ?_⟩
  ·cases ((p 0).1 == ((0, 1) : Rt)) <;> cases ((p (n - 1)).1 == ((1, 1) : Rt)) <;> simp
  ·simp only [Bool.and_eq_true, beq_iff_eq, h4]
   exact ⟨fun h => ⟨hc, h.2.2, h.1, h.2.1⟩, fun h => ⟨h.2.2.1, h.2.2.2, h.2.1⟩⟩
 ·have hany : ((tab n p).any fun q => !(coord q.1 && coord q.2)) = true := by
   refine Classical.byContradiction fun hno => hc fun i hi => ?_
   have : ((tab n p).any fun q => !(coord q.1 && coord q.2)) = false := by simpa using hno
   have := List.any_eq_false.1 this (p i) (tab_mem.2 ⟨i, hi, rfl⟩)
   simpa using this
  exact ⟨false, by rw [hany]; rfl, ⟨fun h => (by cases h), fun h => absurd h.1 hc⟩⟩
theorem ypc (f : List Pt) (hl : f.length ≤ 4611686018427387904) : ∃ c, spec_imGood f = some c ∧ impl_isMap f = some c ∧ (c = true → ∃ n p, f = tab n p ∧ 2 ≤ n ∧ n ≤ 12 ∧ isMapT n p) := by
 cases h : inB 2 12 (f.length : Int)
 ·exact ⟨false, by simp [spec_imGood, yka, h], by simp [impl_isMap, yna, h], by simp⟩
 ·have hb := inB_iff.1 h
  have e : f = tab f.length (fun i => f.getD i ((0, 0), (0, 0))) := tab_eta f
  obtain ⟨c, h1, h2⟩ := ymb f.length (fun i => f.getD i ((0, 0), (0, 0))) (by omega) (by omega)
  obtain ⟨d, h3, h4⟩ := ykd f.length (fun i => f.getD i ((0, 0), (0, 0))) (by omega) (by omega)
  rw [← e] at h1 h3
  have hcd : d = c := by
   have h5 : d = true ↔ c = true := h4.trans h2.symm
   cases c <;> cases d
   ·rfl
   ·have := h5.1 rfl; cases this
   ·have := h5.2 rfl; cases this
   ·rfl
  subst hcd
  exact ⟨d, h1, h3, fun hd => ⟨f.length, _, e, by omega, by omega, h2.1 hd⟩⟩
end Go.PV

/-
 Plain laws: the variation of a map.
 Conditions: none.
-/
set_option linter.all false
namespace Go.PV
def sumD (r : Nat → Rt) : Nat → Option Rt
 | 0 => some (0, 1)
 | k + 1 => (sumD r k).bind fun s => (distQ (r k) (r (k + 1))).bind fun d => addQ s d
theorem sumD_rat {r : Nat → Rt} : ∀ k s, sumD r k = some s → isRat s = true
 | 0, s, h => by obtain rfl := Option.some.inj h; decide
 | k + 1, s, h => by
  simp only [sumD] at h
  obtain ⟨s', h1, h2⟩ := Option.bind_eq_some_iff.1 h
  obtain ⟨d, h3, h4⟩ := Option.bind_eq_some_iff.1 h2
  exact addQ_rat h4
theorem ype {r : Nat → Rt} {k m : Nat} (h : sumD r k = none) (hm : k ≤ m) : sumD r m = none := by
  induction m with
  | zero => have : k = 0 := by omega
            subst this; exact h
  | succ m ih =>
    by_cases hk : k = m + 1
    · subst hk; exact h
    · simp [sumD, ih (by omega)]
theorem yic (n : Nat) (r : Nat → Rt) (h1 : 1 ≤ n) (hn : n ≤ 1048576) (hr : ∀ i, i < n → isRat (r i) = true) : impl_variation (tab n r) = some (unO (sumD r (n - 1))) := by
 obtain ⟨y, h3, h4⟩ := loop_run (body := impl_variation_b1 (tab n r)) (fun x => ∃ i : Nat, x.2.2.2 = (i : Int) ∧ 1 ≤ i ∧ i ≤ n ∧ isRat (x.2.1, x.2.2.1) = true ∧ ((x.1 = false ∧ sumD r (i - 1) = some (x.2.1, x.2.2.1)) ∨ (x.1 = true ∧ sumD r (i - 1) = none))) (fun x => n - x.2.2.2.toNat)
  (fun y => (y.1 = false ∧ sumD r (n - 1) = some y.2) ∨ (y.1 = true ∧ sumD r (n - 1) = none)) (fun ⟨bad, a, b, t⟩ ⟨i, e, hi0, hi, hs, hc⟩ => by
   simp only at e hs hc
   subst e
   by_cases hlt : i < n
   ·left
    have hp := hr (i - 1) (by omega)
    have hq := hr i hlt
    have hd : isRat (cK bad (distQ (r (i - 1)) (r i))).1 = true := cK_rat fun _ => yhf
    refine ⟨_, by
     simp only [impl_variation_b1, tab_len, idxO_tab hlt, w64_pred (show 0 < i by omega) (by omega), idxO_tab (show i - 1 < n by omega), show ((i : Int) < (n : Int)) from by omega, decide_true, if_true, Option.bind_some, yoc bad hp hq, ycd _ hs hd, w64_nat (show i < 9223372036854775807 by omega)]
     rfl, ⟨i + 1, rfl, by omega, hlt, cK_rat fun _ => addQ_rat, ?_⟩, by simp only [Int.toNat_natCast]; omega⟩
    have e1 : sumD r (i + 1 - 1) = (sumD r (i - 1)).bind fun s => (distQ (r (i - 1)) (r i)).bind fun d => addQ s d := by
     obtain ⟨j, rfl⟩ : ∃ j, i = j + 1 := ⟨i - 1, by omega⟩
     rfl
    simp only
    rw [e1]
    rcases hc with ⟨rfl, h5⟩ | ⟨rfl, h5⟩
    ·rw [h5]
     simp only [Option.bind_some]
     cases hdq : distQ (r (i - 1)) (r i) with
     | none => right; simp only [cK, Option.bind_none]; exact ⟨by cases addQ (a, b) (0, 1) <;> rfl, trivial⟩
     | some d =>
      simp only [cK, Option.bind_some]
      cases haq : addQ (a, b) d with
      | none => right; exact ⟨rfl, rfl⟩
      | some s => left; exact ⟨rfl, rfl⟩
    ·right
     rw [h5]
     refine ⟨?_, rfl⟩
     cases distQ (r (i - 1)) (r i) <;> simp only [cK] <;> (generalize addQ (a, b) _ = o; cases o <;> rfl)
   ·right
    have : i = n := by omega
    subst this
    exact ⟨(bad, a, b), by simp [impl_variation_b1, tab_len], hc⟩) (false, 0, 1, 1) ⟨1, rfl, by omega, by omega, by decide, .inl ⟨rfl, rfl⟩⟩
 unfold impl_variation impl_zero
 simp only [Option.bind_some]
 rw [h3, Option.bind_some]
 rcases h4 with ⟨h4, h5⟩ | ⟨h4, h5⟩
 ·rw [h5]; simp [impl_variation_k1, h4, unO]
 ·rw [h5]; simp [impl_variation_k1, h4, unO]
theorem yzd (n : Nat) (r : Nat → Rt) (h1 : 1 ≤ n) (hn : n ≤ 1048576) (hr : ∀ i, i < n → isRat (r i) = true) : spec_lpSum (tab n r) = some (unO (sumD r (n - 1))) := by
 obtain ⟨y, h3, h4⟩ := loop_run (body := spec_lpSum_b1 (tab n r)) (fun x => ∃ i : Nat, x.2.2 = (i : Int) ∧ 1 ≤ i ∧ i ≤ n ∧ sumD r (i - 1) = some (x.1, x.2.1)) (fun x => n - x.2.2.toNat)
  (fun y => (y = .inl ((0, 0), false) ∧ sumD r (n - 1) = none) ∨ ∃ s, y = .inr s ∧ sumD r (n - 1) = some s) (fun ⟨a, b, t⟩ ⟨i, e, hi0, hi, hc⟩ => by
   simp only at e hc
   subst e
   by_cases hlt : i < n
   ·have hp := hr (i - 1) (by omega)
    have hq := hr i hlt
    have hs := sumD_rat _ _ hc
    have e1 : sumD r i = (subQ (r i) (r (i - 1))).bind fun d => addQ (a, b) (absR d) := by
     obtain ⟨j, rfl⟩ : ∃ j, i = j + 1 := ⟨i - 1, by omega⟩
     simp only [Nat.add_sub_cancel] at hc hp ⊢
     simp only [sumD, hc, Option.bind_some, ygf hp hq]
     cases subQ (r (j + 1)) (r j) <;> rfl
    simp only [spec_lpSum_b1, tab_len, idxO_tab hlt, w64_pred (show 0 < i by omega) (by omega), idxO_tab (show i - 1 < n by omega), show ((i : Int) < (n : Int)) from by omega, decide_true, if_true, Option.bind_some, yva hq hp]
    cases hsq : subQ (r i) (r (i - 1)) with
    | none => right; exact ⟨_, by simp [unO], .inl ⟨rfl, ype (by rw [e1, hsq]; rfl) (by omega)⟩⟩
    | some d =>
     have hd := subQ_rat hsq
     obtain ⟨d1, d2, d3, d4, _⟩ := isRat_iff.1 hd
     have habs : isRat ((d.1.natAbs : Int), d.2) = true := yff hd
     simp only [unO, Bool.not_true, Bool.false_eq_true, if_false, yua d.1 (by omega) (by omega), Option.bind_some, ycc hs habs]
     cases haq : addQ (a, b) ((d.1.natAbs : Int), d.2) with
     | none => right; exact ⟨_, by simp [unO], .inl ⟨rfl, ype (k := i) (by rw [e1, hsq]; exact haq) (by omega)⟩⟩
     | some s => left; exact ⟨(s.1, s.2, ((i + 1 : Nat) : Int)), by simp [unO, w64_nat (show i < 9223372036854775807 by omega)], ⟨i + 1, rfl, by omega, hlt, by rw [Nat.add_sub_cancel, e1, hsq]; exact haq⟩, by simp only [Int.toNat_natCast]; omega⟩
   ·right
    have : i = n := by omega
    subst this
    exact ⟨.inr (a, b), by simp [spec_lpSum_b1, tab_len], .inr ⟨_, rfl, hc⟩⟩) (0, 1, 1) ⟨1, rfl, by omega, by omega, rfl⟩
 unfold spec_lpSum spec_raInt
 simp only [Option.bind_some]
 rw [h3, Option.bind_some]
 rcases h4 with ⟨rfl, h5⟩ | ⟨s, rfl, h5⟩
 ·rw [h5]; rfl
 ·rw [h5]; rfl
end Go.PV

/-
 Plain laws: slopes and laps of a map.
 Conditions: none.
-/
set_option linter.all false
namespace Go.PV
structure LowOk (n d : Int) (r : Rt) : Prop where
 eq : lowQ n d = some r
 rat : isRat r = true
 num : r.1.natAbs ≤ n.natAbs
 den : 1 ≤ r.2 ∧ r.2 ≤ d
 pos : 0 < n → 0 < r.1
 neg : n < 0 → r.1 < 0
 zer : n = 0 → r.1 = 0
theorem yta {n d : Int} (h1 : 0 ≤ n) (h2 : n ≤ 1000000000) (h3 : 1 ≤ d) (h4 : d ≤ 1000000000) : ∃ r, LowOk n d r := by
 have hg : 0 < Int.gcd n d := Int.gcd_pos_of_ne_zero_right _ (by omega)
 have hdn : ¬ d < 0 := by omega
 have hr := yhe h1 h2 h3 h4
 have e : lowest n d = if isRat (Int.tdiv n (Int.gcd n d : Int), Int.tdiv d (Int.gcd n d : Int)) = true then ((Int.tdiv n (Int.gcd n d : Int), Int.tdiv d (Int.gcd n d : Int)), true) else ((0, 0), false) := by
  unfold lowest; simp only [if_neg hdn]
 have hrat : isRat (Int.tdiv n (Int.gcd n d : Int), Int.tdiv d (Int.gcd n d : Int)) = true := by
  refine Classical.byContradiction fun hno => ?_
  rw [e, if_neg hno] at hr
  exact absurd hr (by decide)
 rw [if_pos hrat] at e
 have e1 : Int.tdiv n (Int.gcd n d : Int) = n / (Int.gcd n d : Int) := Int.tdiv_eq_ediv_of_nonneg h1
 have e2 : Int.tdiv d (Int.gcd n d : Int) = d / (Int.gcd n d : Int) := Int.tdiv_eq_ediv_of_nonneg (by omega)
 have hgn : 0 < n → (Int.gcd n d : Int) ≤ n := fun h => by
  have := Nat.gcd_le_left d.natAbs (show 0 < n.natAbs by omega)
  have e : Int.gcd n d = Nat.gcd n.natAbs d.natAbs := rfl
  omega
 refine ⟨_, ⟨by unfold lowQ; rw [e]; rfl, hrat, ?_, ⟨(isRat_iff.1 hrat).1, ?_⟩, fun h => ?_, fun h => by omega, fun h => by subst h; simp⟩⟩
 ·exact yud _ _
 ·show Int.tdiv d _ ≤ d
  have := yud d (Int.gcd n d : Int)
  have h5 := (isRat_iff.1 hrat).1
  simp only at h5
  omega
 ·show 0 < Int.tdiv n _
  rw [e1]
  exact Int.ediv_pos_of_pos_of_dvd h (by omega) (Int.gcd_dvd_left ..)
theorem yqe {n d : Int} (h1 : -1000000000 ≤ n) (h2 : n ≤ 1000000000) (h3 : 1 ≤ d) (h4 : d ≤ 1000000000) : ∃ r, LowOk n d r := by
 by_cases hn : 0 ≤ n
 ·exact yta hn h2 h3 h4
 ·obtain ⟨r, h⟩ := yta (n := -n) (d := d) (by omega) (by omega) h3 h4
  have e := lowQ_neg (n := -n) (d := d) (by omega)
  rw [Int.neg_neg, h.eq] at e
  have hr := ykc h.rat
  have := h.pos (by omega)
  have := h.num
  exact ⟨(-r.1, r.2), ⟨e, by rw [Int.zero_sub] at hr; exact hr, by show (-r.1).natAbs ≤ _; omega, h.den, fun h => by omega, fun h => by show -r.1 < 0; omega, fun h => by omega⟩⟩
theorem coord_bd {r : Rt} (h : coord r = true) : 0 ≤ r.1 ∧ r.1 ≤ r.2 ∧ 1 ≤ r.2 ∧ r.2 ≤ 100 := by
 simp only [coord, isUnit, Bool.and_eq_true, inB_iff, decide_eq_true_eq] at h
 have := isRat_iff.1 h.1.1
 omega
theorem mul_bd {a b A B : Int} (h1 : -A ≤ a) (h2 : a ≤ A) (h3 : -B ≤ b) (h4 : b ≤ B) (hA : 0 ≤ A) (hB : 0 ≤ B) : -(A * B) ≤ a * b ∧ a * b ≤ A * B := by
 have h5 : (a * b).natAbs ≤ A.natAbs * B.natAbs := by rw [Int.natAbs_mul]; exact Nat.mul_le_mul (by omega) (by omega)
 have h6 : ((A.natAbs * B.natAbs : Nat) : Int) = A * B := by rw [Int.natCast_mul]; rw [Int.natAbs_of_nonneg hA, Int.natAbs_of_nonneg hB]
 omega
def small (r : Rt) : Prop := isRat r = true ∧ -500 ≤ r.1 ∧ r.1 ≤ 500 ∧ 1 ≤ r.2 ∧ r.2 ≤ 100
theorem yia {r : Rt} (h : coord r = true) : small r := by
 have := coord_bd h
 exact ⟨yfa h, by omega, by omega, by omega, by omega⟩
theorem yre {a b : Rt} (ha : small a) (hb : small b) : ∃ r, LowOk (a.1 * b.2 - b.1 * a.2) (a.2 * b.2) r ∧ subQ a b = some r ∧ r.1.natAbs ≤ 100000 ∧ r.2 ≤ 10000 := by
 obtain ⟨_, a1, a2, a3, a4⟩ := ha
 obtain ⟨_, b1, b2, b3, b4⟩ := hb
 have m1 := mul_bd (a := a.1) (b := b.2) (A := 500) (B := 100) (by omega) (by omega) (by omega) (by omega) (by omega) (by omega)
 have m2 := mul_bd (a := b.1) (b := a.2) (A := 500) (B := 100) (by omega) (by omega) (by omega) (by omega) (by omega) (by omega)
 have m3 := mul_bd (a := a.2) (b := b.2) (A := 100) (B := 100) (by omega) (by omega) (by omega) (by omega) (by omega) (by omega)
 have p3 : 0 < a.2 * b.2 := Int.mul_pos (by omega) (by omega)
 obtain ⟨r, hr⟩ := yqe (n := a.1 * b.2 - b.1 * a.2) (d := a.2 * b.2) (by omega) (by omega) (by omega) (by omega)
 have h5 := hr.num
 have h6 := hr.den
 exact ⟨r, hr, hr.eq, by omega, by omega⟩
def slopeQ (p q : Pt) : Rt := (((subQ q.2 p.2).bind fun u => (subQ q.1 p.1).bind fun v => divQ u v)).getD (0, 0)
structure SlopeOk (p q : Pt) (u v : Rt) : Prop where
 up : subQ q.2 p.2 = some u
 far : subQ q.1 p.1 = some v
 ru : isRat u = true
 rv : isRat v = true
 div : divQ u v = some (slopeQ p q)
 rs : isRat (slopeQ p q) = true
 ub : u.1.natAbs ≤ 100000 ∧ u.2 ≤ 10000
 vb : v.1.natAbs ≤ 10000 ∧ v.2 ≤ 10000
 vp : 0 < v.1
 sg : (0 < (slopeQ p q).1 ↔ 0 < u.1) ∧ ((slopeQ p q).1 < 0 ↔ u.1 < 0)
theorem slope_ok {p q : Pt} (hp1 : coord p.1 = true) (hp2 : small p.2) (hq1 : coord q.1 = true) (hq2 : small q.2) (hl : less p.1 q.1 = true) : ∃ u v, SlopeOk p q u v := by
 obtain ⟨u, hu, e1, u1, u2⟩ := yre hq2 hp2
 obtain ⟨v, hv, e2, v1', v2⟩ := yre (yia hq1) (yia hp1)
 have v1 : v.1.natAbs ≤ 10000 := by
  have h1 := hv.num
  obtain ⟨a1, a2, a3, a4⟩ := coord_bd hq1
  obtain ⟨b1, b2, b3, b4⟩ := coord_bd hp1
  have m1 := mul_bd (a := q.1.1) (b := p.1.2) (A := 100) (B := 100) (by omega) (by omega) (by omega) (by omega) (by omega) (by omega)
  have m2 := mul_bd (a := p.1.1) (b := q.1.2) (A := 100) (B := 100) (by omega) (by omega) (by omega) (by omega) (by omega) (by omega)
  have p1 : 0 ≤ q.1.1 * p.1.2 := Int.mul_nonneg a1 (by omega)
  have p2 : 0 ≤ p.1.1 * q.1.2 := Int.mul_nonneg b1 (by omega)
  omega
 have hlt : p.1.1 * q.1.2 < q.1.1 * p.1.2 := by simpa [less] using hl
 have hvp := hv.pos (by omega)
 have hud := hu.den
 have hvd := hv.den
 have m1 := mul_bd (a := u.1) (b := v.2) (A := 100000) (B := 10000) (by omega) (by omega) (by omega) (by omega) (by omega) (by omega)
 have m2 := mul_bd (a := u.2) (b := v.1) (A := 10000) (B := 10000) (by omega) (by omega) (by omega) (by omega) (by omega) (by omega)
 have m3 : 0 < u.2 * v.1 := Int.mul_pos (by omega) hvp
 obtain ⟨s, hs⟩ := yqe (n := u.1 * v.2) (d := u.2 * v.1) (by omega) (by omega) (by omega) (by omega)
 have e3 : divQ u v = some s := by unfold divQ; rw [if_neg (by omega)]; exact hs.eq
 have e4 : slopeQ p q = s := by unfold slopeQ; rw [e1, e2]; simp [e3]
 refine ⟨u, v, ⟨e1, e2, hu.rat, hv.rat, by rw [e4]; exact e3, by rw [e4]; exact hs.rat, ⟨u1, u2⟩, ⟨v1, v2⟩, hvp, ?_⟩⟩
 rw [e4]
 have hv2 : 0 < v.2 := by omega
 rcases Int.lt_trichotomy u.1 0 with h | h | h
 ·have h1 : u.1 * v.2 < 0 := Int.mul_neg_of_neg_of_pos h hv2
  have := hs.neg h1
  constructor <;> constructor <;> omega
 ·have h1 : u.1 * v.2 = 0 := by rw [h, Int.zero_mul]
  have := hs.zer h1
  constructor <;> constructor <;> omega
 ·have h1 : 0 < u.1 * v.2 := Int.mul_pos h hv2
  have := hs.pos h1
  constructor <;> constructor <;> omega
theorem ydc {p q : Pt} {u v : Rt} (hp1 : coord p.1 = true) (hp2 : small p.2) (hq1 : coord q.1 = true) (hq2 : small q.2) (h : SlopeOk p q u v) (bad : Bool) : impl_calc_slope bad p q = some (slopeQ p q, bad) := by
 unfold impl_calc_slope
 rw [yxa bad hq2.1 hp2.1, Option.bind_some, h.up]
 simp only [cK]
 rw [yxa bad (yfa hq1) (yfa hp1), Option.bind_some, h.far]
 simp only [cK]
 rw [yxe bad h.ru h.rv, Option.bind_some, h.div]
 rfl
theorem ynb {p q : Pt} {u v : Rt} (hp1 : coord p.1 = true) (hp2 : small p.2) (hq1 : coord q.1 = true) (hq2 : small q.2) (h : SlopeOk p q u v) : spec_imSlope p q = some (slopeQ p q) := by
 unfold spec_imSlope
 rw [yva hq2.1 hp2.1, Option.bind_some, h.up]
 simp only [unO]
 rw [yva (yfa hq1) (yfa hp1), Option.bind_some, h.far]
 simp only [unO]
 rw [yxd h.ru h.rv, Option.bind_some, h.div]
 rfl
section
variable {n : Nat} {p : Nat → Pt}
theorem piece_ok (h : isMapT n p) {i : Nat} (hi : i + 1 < n) : ∃ u v, SlopeOk (p i) (p (i + 1)) u v :=
 slope_ok (h.1 i (by omega)).1 (yia (h.1 i (by omega)).2) (h.1 (i + 1) hi).1 (yia (h.1 (i + 1) hi).2) (h.2.1 (i + 1) (by omega) hi)
def slopesT (n : Nat) (p : Nat → Pt) : List Rt := tab (n - 1) fun i => slopeQ (p i) (p (i + 1))
theorem yob (h : isMapT n p) (h2 : 2 ≤ n) (hn : n ≤ 12) : impl_slopes (tab n p) = some (slopesT n p) := by
 have hx := loop_tab (body := impl_slopes_b1 (tab n p)) (n - 1) (fun l i => (false, l, ((i + 1 : Nat) : Int))) (fun i => slopeQ (p i) (p (i + 1))) (slopesT n p) (fun i hi => by
  obtain ⟨u, v, hs⟩ := piece_ok h (i := i) (by omega)
  have a := h.1 i (by omega)
  have b := h.1 (i + 1) (by omega)
  simp only [impl_slopes_b1, tab_len, w64_pred (show 0 < i + 1 by omega) (by omega), Nat.add_sub_cancel, idxO_tab (show i < n by omega), idxO_tab (show i + 1 < n by omega), show (((i + 1 : Nat) : Int) < (n : Int)) from by omega, decide_true, if_true, Option.bind_some, ydc a.1 (yia a.2) b.1 (yia b.2) hs false, w64_nat (show i + 1 < 9223372036854775807 by omega)]
  rw [guardO_bind_pos (by simp; omega)]) (by
  simp only [impl_slopes_b1, tab_len, show ¬ (((n - 1 + 1 : Nat) : Int) < (n : Int)) from by omega, decide_false, Bool.false_eq_true, if_false]
  rfl)
 unfold impl_slopes
 rw [show (1 : Int) = ((0 + 1 : Nat) : Int) from rfl, hx]; rfl
theorem ycb (h : isMapT n p) (h2 : 2 ≤ n) (hn : n ≤ 12) : spec_imSlopes (tab n p) = some (slopesT n p) := by
 have hx := loop_tab (body := spec_imSlopes_b1 (tab n p)) (n - 1) (fun l i => (l, ((i + 1 : Nat) : Int))) (fun i => slopeQ (p i) (p (i + 1))) (slopesT n p) (fun i hi => by
  obtain ⟨u, v, hs⟩ := piece_ok h (i := i) (by omega)
  have a := h.1 i (by omega)
  have b := h.1 (i + 1) (by omega)
  simp only [spec_imSlopes_b1, tab_len, w64_pred (show 0 < i + 1 by omega) (by omega), Nat.add_sub_cancel, idxO_tab (show i < n by omega), idxO_tab (show i + 1 < n by omega), show (((i + 1 : Nat) : Int) < (n : Int)) from by omega, decide_true, if_true, Option.bind_some, ynb a.1 (yia a.2) b.1 (yia b.2) hs, w64_nat (show i + 1 < 9223372036854775807 by omega)]
  rw [guardO_bind_pos (by simp; omega)]) (by
  simp only [spec_imSlopes_b1, tab_len, show ¬ (((n - 1 + 1 : Nat) : Int) < (n : Int)) from by omega, decide_false, Bool.false_eq_true, if_false]
  rfl)
 unfold spec_imSlopes
 rw [show (1 : Int) = ((0 + 1 : Nat) : Int) from rfl, hx]; rfl
def strictB (n : Nat) (p : Nat → Pt) : Bool := (slopesT n p).all fun s => !(s.1 == 0)
theorem ydb (h : isMapT n p) (h2 : 2 ≤ n) (hn : n ≤ 12) : spec_lpStrict (tab n p) = some (strictB n p) := by
 have hl : (slopesT n p).length = n - 1 := tab_len _ _
 have hx := loop_any (xs := slopesT n p) (body := spec_lpStrict_b1 (slopesT n p)) (fun s => s.1 == 0) (fun i => (i : Int)) (.inl false) (.inr ()) (fun i x hx => by
  have hi := getElem?_lt hx
  simp only [spec_lpStrict_b1, idxO_nat, hx, Option.bind_some, show ((i : Int) < ((slopesT n p).length : Int)) from by omega, decide_true, if_true, w64_nat (show i < 9223372036854775807 by omega)]
  cases x.1 == 0 <;> rfl) (by simp [spec_lpStrict_b1])
 unfold spec_lpStrict strictB
 rw [ycb h h2 hn, Option.bind_some, show (0 : Int) = ((0 : Nat) : Int) from rfl, hx, List.any_eq_not_all_not]
 simp only [Int.natCast_zero]
 cases (slopesT n p).all fun s => !(s.1 == 0) <;> simp [spec_lpStrict_k1]
theorem yie (xs : List Rt) (f : Rt → Option Bool) (q : Rt → Bool) (hf : ∀ x, f x = some (q x)) (hl : xs.length ≤ 4611686018427387904) : slices_ContainsFunc_Limpl_Rat_impl_Rat xs f = some (xs.any q) := by
 have h := loop_first (xs := xs) (body := slices_IndexFunc_Limpl_Rat_impl_Rat_b1 xs f) q (fun i => (i : Int)) (fun i => .inl (i : Int)) (.inr ()) (fun i x hx => by
  have hi := getElem?_lt hx
  simp only [slices_IndexFunc_Limpl_Rat_impl_Rat_b1, idxO_nat, hx, hf x, Option.bind_some, w64_nat (show i < 9223372036854775807 by omega), show ((i : Int) < (xs.length : Int)) from by omega, decide_true, if_true]
  cases q x <;> rfl) (by simp [slices_IndexFunc_Limpl_Rat_impl_Rat_b1])
 unfold slices_ContainsFunc_Limpl_Rat_impl_Rat slices_IndexFunc_Limpl_Rat_impl_Rat
 rw [show (0 : Int) = ((0 : Nat) : Int) from rfl, h]
 cases hx : xs.findIdx? q with
 | none =>
  have hn := List.findIdx?_eq_none_iff.1 hx
  have : xs.any q = false := by simpa using hn
  simp [this, slices_IndexFunc_Limpl_Rat_impl_Rat_k1]
 | some m =>
  obtain ⟨hm, hp, _⟩ := List.findIdx?_eq_some_iff_getElem.1 hx
  have : xs.any q = true := by simp; exact ⟨xs[m].1, xs[m].2, List.getElem_mem hm, hp⟩
  simp [this]
end
theorem yed (f : List Pt) (hl : f.length ≤ 4611686018427387904) : ∃ c b, spec_imGood f = some c ∧ impl_isMap f = some c ∧ impl_isStrict f = some (c && b) ∧
  (c = true → spec_lpStrict f = some b ∧ ∃ n p, f = tab n p ∧ 2 ≤ n ∧ n ≤ 12 ∧ isMapT n p ∧ b = strictB n p) := by
 obtain ⟨c, h1, h2, h3⟩ := ypc f hl
 cases c
 ·exact ⟨false, false, h1, h2, by simp [impl_isStrict, impl_isLapMap, h2], by simp⟩
 ·obtain ⟨n, p, rfl, h4, h5, hm⟩ := h3 rfl
  refine ⟨true, strictB n p, h1, h2, ?_, fun _ => ⟨ydb hm h4 h5, n, p, rfl, h4, h5, hm, rfl⟩⟩
  unfold impl_isStrict impl_isLapMap
  rw [h2]
  simp only [Option.bind_some, if_true, yob hm h4 h5, yie (slopesT n p) (fun x0 => impl_isLapMap_1 x0) (fun s => s.1 == 0) (fun x => rfl) (by unfold slopesT; rw [tab_len]; omega), strictB, Bool.true_and, List.any_eq_not_all_not, Bool.not_not]
end Go.PV

/-
 Plain laws: values of maps and lifts.
 Conditions: none.
-/
set_option linter.all false
namespace Go.PV
structure Curve (n : Nat) (p : Nat → Pt) : Prop where
 lo : 2 ≤ n
 hi : n ≤ 12
 x : ∀ i, i < n → coord (p i).1 = true
 y : ∀ i, i < n → small (p i).2
 up : ∀ i, 0 < i → i < n → less (p (i - 1)).1 (p i).1 = true
 fst : (p 0).1 = (0, 1)
 lst : (p (n - 1)).1 = (1, 1)
theorem Curve.of_map {n : Nat} {p : Nat → Pt} (h : isMapT n p) (h2 : 2 ≤ n) (hn : n ≤ 12) : Curve n p :=
 ⟨h2, hn, fun i hi => (h.1 i hi).1, fun i hi => yia (h.1 i hi).2, h.2.1, h.2.2.1, h.2.2.2⟩
def CR (bad : Bool) (o : Option Rt) (v : Rt × Bool) : Prop := isRat v.1 = true ∧ match o with
 | some r => v = (r, bad)
 | none => v.2 = true
theorem CR_cK {bad : Bool} {o : Option Rt} (h : ∀ r, o = some r → isRat r = true) : CR bad o (cK bad o) := by
 refine ⟨cK_rat h, ?_⟩
 cases o <;> rfl
theorem CR_bad {o : Option Rt} {v : Rt × Bool} (h : CR true o v) : v.2 = true := by
 obtain ⟨_, h⟩ := h
 cases o with
 | some r => rw [h]
 | none => exact h
theorem CR_bind {bad : Bool} {o : Option Rt} {v v' : Rt × Bool} {g : Rt → Option Rt} (h : CR bad o v) (h' : CR v.2 (g v.1) v') : CR bad (o.bind g) v' := by
 obtain ⟨h1, h2⟩ := h
 refine ⟨h'.1, ?_⟩
 cases o with
 | some r =>
  simp only at h2
  subst h2
  exact h'.2
 | none =>
  simp only at h2
  simp only [Option.bind_none]
  have := h'
  rw [h2] at this
  exact CR_bad this
section
variable {n : Nat} {p : Nat → Pt}
theorem Curve.piece (h : Curve n p) {i : Nat} (hi : i + 1 < n) : ∃ u v, SlopeOk (p i) (p (i + 1)) u v :=
 slope_ok (h.x i (by omega)) (h.y i (by omega)) (h.x (i + 1) hi) (h.y (i + 1) hi) (h.up (i + 1) (by omega) hi)
structure AtJ (n : Nat) (p : Nat → Pt) (x : Rt) (j : Nat) : Prop where
 lt : j < n
 bef : ∀ k, k < j → less (p k).1 x = true
 at' : less (p j).1 x = false
theorem findJ (h : Curve n p) {x : Rt} (hx : isUnit x = true) : ∃ j, AtJ n p x j := by
  have hr : isRat x = true := by simp only [isUnit, Bool.and_eq_true] at hx; exact hx.1
  have hle : less (p (n - 1)).1 x = false := by
    rw [h.lst]
    simp only [isUnit, Bool.and_eq_true, inB_iff] at hx
    have := isRat_iff.1 hr
    simp only [less, decide_eq_false_iff_not]
    omega
  have : ∀ k, k < n → (∃ j, AtJ n p x j) ∨ ∀ i, i ≤ k → less (p i).1 x = true := by
    intro k
    induction k with
    | zero =>
      intro hk
      cases h0 : less (p 0).1 x
      · exact .inl ⟨0, hk, fun k hk => by omega, h0⟩
      · exact .inr fun i hi => by have : i = 0 := by omega
                                  subst this; exact h0
    | succ k ih =>
      intro hk
      rcases ih (by omega) with h1 | h1
      · exact .inl h1
      · cases h0 : less (p (k + 1)).1 x
        · exact .inl ⟨k + 1, hk, fun i hi => h1 i (by omega), h0⟩
        · refine .inr fun i hi => ?_
          by_cases hik : i ≤ k
          · exact h1 i hik
          · have : i = k + 1 := by omega
            subst this; exact h0
  have h2 := h.lo
  rcases this (n - 1) (by omega) with h1 | h1
  · exact h1
  · have := h1 (n - 1) (Nat.le_refl _)
    rw [hle] at this; cases this
theorem AtJ.uniq {x : Rt} {j k : Nat} (h : AtJ n p x j) (h' : AtJ n p x k) : j = k := by
 rcases Nat.lt_trichotomy j k with h1 | h1 | h1
 ·have := h'.bef j h1; rw [h.at'] at this; cases this
 ·exact h1
 ·have := h.bef k h1; rw [h'.at'] at this; cases this
theorem index_Pt (f : Pt → Option Bool) (q : Nat → Bool) (hf : ∀ i, i < n → f (p i) = some (q i)) (j : Nat) (hj : j < n) (hn : n ≤ 1048576) (h1 : ∀ k, k < j → q k = false) (h2 : q j = true) : slices_IndexFunc_Limpl_Point_impl_Point (tab n p) f = some (j : Int) := by
 have hx := loop_idx (body := slices_IndexFunc_Limpl_Point_impl_Point_b1 (tab n p) f) j (fun i => (i : Int)) (.inl (j : Int)) (fun i hi => by
  simp only [slices_IndexFunc_Limpl_Point_impl_Point_b1, tab_len, idxO_tab (show i < n by omega), hf i (by omega), h1 i hi, Option.bind_some, show ((i : Int) < (n : Int)) from by omega, decide_true, if_true, w64_nat (show i < 9223372036854775807 by omega)]
  simp) (by
  simp only [slices_IndexFunc_Limpl_Point_impl_Point_b1, tab_len, idxO_tab hj, hf j hj, h2, Option.bind_some, show ((j : Int) < (n : Int)) from by omega, decide_true, if_true])
 unfold slices_IndexFunc_Limpl_Point_impl_Point
 rw [show (0 : Int) = ((0 : Nat) : Int) from rfl, hx]
 rfl
theorem yxc (h : Curve n p) {x : Rt} (hx : isRat x = true) {j : Nat} (hj : AtJ n p x j) : impl_pieceAt (tab n p) x = some ((j - 1 : Nat) : Int) := by
 have h1 := h.hi
 have hlt := hj.lt
 unfold impl_pieceAt
 rw [index_Pt (fun x0 => impl_pieceAt_1 x0 x) (fun i => !less (p i).1 x) (fun i hi => by simp [impl_pieceAt_1, yla _ _ (ysa (h.x i hi)) (tame_of hx)]) j hlt (by omega) (fun k hk => by simp [hj.bef k hk]) (by simp [hj.at'])]
 rw [Option.bind_some, w64_id (by omega) (by omega)]
 congr 1
 split <;> omega
theorem yyc (h : Curve n p) {x : Rt} (hx : isRat x = true) {j : Nat} (hj : AtJ n p x j) : spec_imPiece (tab n p) x = some ((j - 1 : Nat) : Int) := by
 have h1 := h.hi
 have h2 := h.lo
 have hlt := hj.lt
 have hx := loop_idx (body := spec_imPiece_b1 (tab n p) x) (j - 1) (fun i => (i : Int)) ((j - 1 : Nat) : Int) (fun i hi => by
  have e2 : w64 ((i : Int) + 2) = ((i + 2 : Nat) : Int) := by rw [w64_id (by omega) (by omega)]; omega
  simp only [spec_imPiece_b1, tab_len, e2, w64_nat (show i < 9223372036854775807 by omega), idxO_tab (show i + 1 < n by omega), Option.bind_some, yba _ _ (ysa (h.x (i + 1) (by omega))) (tame_of hx), show (((i + 2 : Nat) : Int) < (n : Int)) from by omega, decide_true, if_true]
  have : decide (cmp (p (i + 1)).1 x < 0) = true := by
   have := hj.bef (i + 1) (by omega)
   simp only [less, decide_eq_true_eq] at this
   simp [cmp, this]
  rw [this]; rfl) (by
  have e2 : w64 (((j - 1 : Nat) : Int) + 2) = ((j - 1 + 2 : Nat) : Int) := by rw [w64_id (by omega) (by omega)]; omega
  simp only [spec_imPiece_b1, tab_len, e2]
  by_cases hc : j - 1 + 2 < n
  ·simp only [show (((j - 1 + 2 : Nat) : Int) < (n : Int)) from by omega, decide_true, if_true, w64_nat (show j - 1 < 9223372036854775807 by omega), idxO_tab (show j - 1 + 1 < n by omega), Option.bind_some, yba _ _ (ysa (h.x (j - 1 + 1) (by omega))) (tame_of hx)]
   have hno : less (p (j - 1 + 1)).1 x = false := by
    by_cases hj0 : j = 0
    ·subst hj0
     -- x is not behind the first point, so not behind the second
     have h3 := hj.at'
     have h4 := h.up 1 (by omega) (by omega)
     rw [h.fst] at h3 h4
     obtain ⟨x1, x2, x3, x4, _⟩ := isRat_iff.1 hx
     have c := coord_bd (h.x 1 (by omega))
     simp only [less, decide_eq_false_iff_not, decide_eq_true_eq] at h3 h4 ⊢
     simp only [Nat.zero_sub, Nat.zero_add, Nat.sub_self] at h4 ⊢
     have p1 : 0 ≤ (p 1).1.1 * x.2 := Int.mul_nonneg c.1 (by omega)
     have p2 : x.1 * (p 1).1.2 ≤ 0 := Int.mul_nonpos_of_nonpos_of_nonneg (by omega) (by omega)
     omega
    ·rw [show j - 1 + 1 = j by omega]; exact hj.at'
   have : decide (cmp (p (j - 1 + 1)).1 x < 0) = false := by
    simp only [less, decide_eq_false_iff_not] at hno
    simp only [cmp, hno, if_false]
    split <;> rfl
   rw [this]; rfl
  ·simp only [show ¬ (((j - 1 + 2 : Nat) : Int) < (n : Int)) from by omega, decide_false, Bool.false_eq_true, if_false, Option.bind_some])
 unfold spec_imPiece
 rw [show (0 : Int) = ((0 : Nat) : Int) from rfl, hx]
 rfl
def onQ (p q : Pt) (x : Rt) : Option Rt := (subQ x p.1).bind fun far => (mulQ (slopeQ p q) far).bind fun up => addQ p.2 up
theorem yif (a b : Rt) : mulQ a b = mulQ b a := by unfold mulQ; rw [Int.mul_comm, Int.mul_comm a.2]
theorem yje {q : Pt} {s x : Rt} (hq1 : isRat q.1 = true) (hq2 : isRat q.2 = true) (hs : isRat s = true) (hx : isRat x = true) (bad : Bool) : ∃ v, impl_calc_line bad q s x = some v ∧ CR bad ((subQ x q.1).bind fun far => (mulQ s far).bind fun up => addQ q.2 up) v := by
 have c1 : CR bad (subQ x q.1) (cK bad (subQ x q.1)) := CR_cK fun _ => subQ_rat
 have c2 := CR_cK (bad := (cK bad (subQ x q.1)).2) (o := mulQ s (cK bad (subQ x q.1)).1) fun _ => mulQ_rat
 have c3 := CR_cK (bad := (cK (cK bad (subQ x q.1)).2 (mulQ s (cK bad (subQ x q.1)).1)).2) (o := addQ q.2 (cK (cK bad (subQ x q.1)).2 (mulQ s (cK bad (subQ x q.1)).1)).1) fun _ => addQ_rat
 refine ⟨_, ?_, CR_bind c1 (CR_bind (g := fun up => addQ q.2 up) c2 c3)⟩
 unfold impl_calc_line
 rw [yxa bad hx hq1, Option.bind_some, ywe _ hs c1.1, Option.bind_some, ycd _ hq2 c2.1]
 rfl
theorem yae (h : Curve n p) {x : Rt} (hx : isRat x = true) {j : Nat} (hj : AtJ n p x j) (bad : Bool) : ∃ v, impl_calc_value bad (tab n p) x = some v ∧ CR bad (onQ (p (j - 1)) (p (j - 1 + 1)) x) v := by
 have h1 := h.hi
 have h2 := h.lo
 have hlt := hj.lt
 have hj1 : j - 1 + 1 < n := by omega
 obtain ⟨u, v, hs⟩ := h.piece hj1
 obtain ⟨w, e1, e2⟩ := yje (q := p (j - 1)) (s := slopeQ (p (j - 1)) (p (j - 1 + 1))) (x := x) (yfa (h.x (j - 1) (by omega))) (h.y (j - 1) (by omega)).1 hs.rs hx bad
 refine ⟨w, ?_, e2⟩
 unfold impl_calc_value
 rw [yxc h hx hj]
 simp only [Option.bind_some, w64_nat (show j - 1 < 9223372036854775807 by omega), idxO_tab (show j - 1 < n by omega), idxO_tab hj1, ydc (h.x (j - 1) (by omega)) (h.y (j - 1) (by omega)) (h.x (j - 1 + 1) hj1) (h.y (j - 1 + 1) hj1) hs bad, e1]
theorem yzc (s : Rt) : spec_raMul (0, 0) s = some ((0, 0), false) := by
 unfold spec_raMul spec_raMake
 have : w64 (0 * s.2) = 0 := by rw [Int.zero_mul]; rfl
 simp only [this]
 rfl
theorem yke (h : Curve n p) {x : Rt} (hx : isRat x = true) {j : Nat} (hj : AtJ n p x j) : spec_imAt (tab n p) x = some (unO (onQ (p (j - 1)) (p (j - 1 + 1)) x)) := by
 have h1 := h.hi
 have h2 := h.lo
 have hlt := hj.lt
 have hj1 : j - 1 + 1 < n := by omega
 obtain ⟨u, v, hs⟩ := h.piece hj1
 have rx := yfa (h.x (j - 1) (by omega))
 unfold spec_imAt
 rw [yyc h hx hj]
 simp only [Option.bind_some, w64_nat (show j - 1 < 9223372036854775807 by omega), idxO_tab (show j - 1 < n by omega), idxO_tab hj1, spec_imOn, yva hx rx, ynb (h.x (j - 1) (by omega)) (h.y (j - 1) (by omega)) (h.x (j - 1 + 1) hj1) (h.y (j - 1 + 1) hj1) hs, onQ]
 cases hsq : subQ x (p (j - 1)).1 with
 | none =>
  simp only [unO, yzc, Option.bind_some, Option.bind_none]
  rfl
 | some far =>
  have hf := subQ_rat hsq
  simp only [unO, ywd hf hs.rs, Option.bind_some, yif far]
  cases hmq : mulQ (slopeQ (p (j - 1)) (p (j - 1 + 1))) far with
  | none => rfl
  | some up =>
   simp only [unO, Option.bind_some, ycc (h.y (j - 1) (by omega)).1 (mulQ_rat hmq)]
   rfl
end
end Go.PV

/-
 Plain laws: values of lifts.
 Conditions: none.
-/
set_option linter.all false
namespace Go.PV
structure LiftT (n : Nat) (p : Nat → Pt) : Prop where
 cur : Curve n p
 mono : ∀ i, 0 < i → i < n → less (p i).2 (p (i - 1)).2 = false
 lstY : (p (n - 1)).2 = ((p 0).2.1 + (p 0).2.2, (p 0).2.2)
 by5 : ∀ i, i < n → -5 * (p i).2.2 ≤ (p i).2.1 ∧ (p i).2.1 ≤ 5 * (p i).2.2
def flr (x : Rt) : Int := floorDiv x.1 x.2
def part (x : Rt) : Rt := (x.1 - flr x * x.2, x.2)
structure PartOk (x : Rt) : Prop where
 rat : isRat (part x) = true
 lo : 0 ≤ (part x).1
 hi : (part x).1 < (part x).2
 spec : spec_raFloor x = some (flr x)
 impl : impl_floor x = some (flr x)
 bd : flr x * x.2 ≤ x.1 ∧ x.1 < flr x * x.2 + x.2
section
variable {n : Nat} {p : Nat → Pt}
open Classical in
noncomputable def atQ (n : Nat) (p : Nat → Pt) (x : Rt) : Option Rt := if h : ∃ j, AtJ n p x j then onQ (p (Classical.choose h - 1)) (p (Classical.choose h - 1 + 1)) x else none
theorem atQ_eq {x : Rt} {j : Nat} (h : AtJ n p x j) : atQ n p x = onQ (p (j - 1)) (p (j - 1 + 1)) x := by
 have hx : ∃ j, AtJ n p x j := ⟨j, h⟩
 unfold atQ
 rw [dif_pos hx, AtJ.uniq (Classical.choose_spec hx) h]
theorem onQ_rat {q r : Pt} {x y : Rt} (h : onQ q r x = some y) : isRat y = true := by
 unfold onQ at h
 obtain ⟨a, _, h⟩ := Option.bind_eq_some_iff.1 h
 obtain ⟨b, _, h⟩ := Option.bind_eq_some_iff.1 h
 exact addQ_rat h
theorem atQ_rat {x y : Rt} (h : atQ n p x = some y) : isRat y = true := by
 unfold atQ at h
 split at h
 ·exact onQ_rat h
 ·cases h
theorem spec_at (h : Curve n p) {x : Rt} (hx : isUnit x = true) : spec_imAt (tab n p) x = some (unO (atQ n p x)) := by
 have hr : isRat x = true := by simp only [isUnit, Bool.and_eq_true] at hx; exact hx.1
 obtain ⟨j, hj⟩ := findJ h hx
 rw [yke h hr hj, atQ_eq hj]
theorem impl_at (h : Curve n p) {x : Rt} (hx : isUnit x = true) (bad : Bool) : ∃ v, impl_calc_value bad (tab n p) x = some v ∧ CR bad (atQ n p x) v := by
 have hr : isRat x = true := by simp only [isUnit, Bool.and_eq_true] at hx; exact hx.1
 obtain ⟨j, hj⟩ := findJ h hx
 rw [atQ_eq hj]
 exact yae h hr hj bad
noncomputable def liftQ (n : Nat) (p : Nat → Pt) (x : Rt) : Option Rt := (atQ n p (part x)).bind fun y => addQ y (flr x, 1)
end
end Go.PV

set_option linter.all false
namespace Go.PV
theorem less_not {a b : Int × Int} (hl : less a b = true) : less b a = false := by
 simp only [less, decide_eq_true_eq, decide_eq_false_iff_not] at hl ⊢
 omega
def minStep (a b : Int × Int) : Int × Int := if less b a = true then b else a
def maxStep (a b : Int × Int) : Int × Int := if less a b = true then b else a
def mnN (r : Nat → Int × Int) (i : Nat) : Int × Int := foldN i (fun s j => minStep s (r j)) (r 0)
def mxN (r : Nat → Int × Int) (i : Nat) : Int × Int := foldN i (fun s j => maxStep s (r j)) (r 0)
theorem mnN_succ (r : Nat → Int × Int) (i : Nat) : mnN r (i + 1) = minStep (mnN r i) (r i) := by simp [mnN, yvd]
theorem mxN_succ (r : Nat → Int × Int) (i : Nat) : mxN r (i + 1) = maxStep (mxN r i) (r i) := by simp [mxN, yvd]
theorem yib (a : Int × Int) : less a a = false := by simp [less]
theorem mnN_one (r : Nat → Int × Int) : mnN r 1 = r 0 := by simp [mnN, foldN, minStep, yib]
theorem mxN_one (r : Nat → Int × Int) : mxN r 1 = r 0 := by simp [mxN, foldN, maxStep, yib]
theorem mn_rat {r : Nat → Int × Int} {n : Nat} (h0 : isRat (r 0) = true) (h : ∀ i, i < n → isRat (r i) = true) : ∀ i, i ≤ n → isRat (mnN r i) = true ∧ isRat (mxN r i) = true
 | 0, _ => by simpa [mnN, mxN, yye] using h0
 | i + 1, hi => by
  have ih := mn_rat h0 h i (by omega)
  rw [mnN_succ, mxN_succ]
  unfold minStep maxStep
  refine ⟨?_, ?_⟩
  ·split
   ·exact h i (by omega)
   ·exact ih.1
  ·split
   ·exact h i (by omega)
   ·exact ih.2
theorem cmp_lt (a b : Int × Int) : decide (cmp a b < 0) = less a b := by
 unfold cmp less
 by_cases h1 : a.1 * b.2 < b.1 * a.2
 ·simp [h1]
 ·by_cases h2 : a.1 * b.2 > b.1 * a.2 <;> simp [h1, h2]
def ratN (G : Nat → Nat → Int) (v : Nat → Int) (n i : Nat) : Int × Int := (lowest (dotN (G i) v n) (v i)).1
section
variable {n : Nat} {G : Nat → Nat → Int} {v : Nat → Int}
theorem ybe {r : Nat → Int × Int} (h1 : 1 ≤ n) (hn : n ≤ 1048576) (hr : ∀ i, i < n → isRat (r i) = true) : slices_MinFunc_Limpl_Rat_impl_Rat (tab n r) (fun x0 x1 => impl_compare x0 x1) = some (mnN r n) := by
 have h := loop_idx (body := slices_MinFunc_Limpl_Rat_impl_Rat_b1 (tab n r) (fun x0 x1 => impl_compare x0 x1)) (n - 1) (fun i => ((mnN r (i + 1)).1, (mnN r (i + 1)).2, ((i + 1 : Nat) : Int))) (mnN r n) (fun i hi => by
  have hi' : i + 1 < n := by omega
  have b := mn_rat (hr 0 (by omega)) hr (i + 1) (by omega)
  simp only [slices_MinFunc_Limpl_Rat_impl_Rat_b1, tab_len, idxO_tab hi', Option.bind_some, show (((i + 1 : Nat) : Int) < (n : Int)) from by omega, decide_true, if_true, w64_nat (show i + 1 < 9223372036854775807 by omega)]
  rw [show ((mnN r (i + 1)).1, (mnN r (i + 1)).2) = mnN r (i + 1) from rfl, ypa _ _ (tame_of (hr _ hi')) (tame_of b.1), Option.bind_some, cmp_lt, mnN_succ r (i + 1)]
  unfold minStep
  cases less (r (i + 1)) (mnN r (i + 1)) <;> simp) (by
  have e : n - 1 + 1 = n := by omega
  simp [slices_MinFunc_Limpl_Rat_impl_Rat_b1, tab_len, e])
 unfold slices_MinFunc_Limpl_Rat_impl_Rat slices_MinFunc_Limpl_Rat_impl_Rat_k1
 have hl : ¬ (n : Int) < 1 := by omega
 simp only [tab_len, hl, decide_false, Bool.false_eq_true, if_false]
 rw [show (0 : Int) = ((0 : Nat) : Int) from rfl, idxO_tab (by omega), Option.bind_some]
 simp only [Nat.zero_add, mnN_one] at h
 have h' : loopO (slices_MinFunc_Limpl_Rat_impl_Rat_b1 (tab n r) (fun x0 x1 => impl_compare x0 x1)) ((r 0).1, (r 0).2, 1) = some (mnN r n) := h
 rw [h']
 rfl
theorem yce {r : Nat → Int × Int} (h1 : 1 ≤ n) (hn : n ≤ 1048576) (hr : ∀ i, i < n → isRat (r i) = true) : slices_MaxFunc_Limpl_Rat_impl_Rat (tab n r) (fun x0 x1 => impl_compare x0 x1) = some (mxN r n) := by
 have h := loop_idx (body := slices_MaxFunc_Limpl_Rat_impl_Rat_b1 (tab n r) (fun x0 x1 => impl_compare x0 x1)) (n - 1) (fun i => ((mxN r (i + 1)).1, (mxN r (i + 1)).2, ((i + 1 : Nat) : Int))) (mxN r n) (fun i hi => by
  have hi' : i + 1 < n := by omega
  have b := mn_rat (hr 0 (by omega)) hr (i + 1) (by omega)
  simp only [slices_MaxFunc_Limpl_Rat_impl_Rat_b1, tab_len, idxO_tab hi', Option.bind_some, show (((i + 1 : Nat) : Int) < (n : Int)) from by omega, decide_true, if_true, w64_nat (show i + 1 < 9223372036854775807 by omega)]
  rw [show ((mxN r (i + 1)).1, (mxN r (i + 1)).2) = mxN r (i + 1) from rfl, ypa _ _ (tame_of (hr _ hi')) (tame_of b.2), Option.bind_some, cmp_gt, mxN_succ r (i + 1)]
  unfold maxStep
  cases less (mxN r (i + 1)) (r (i + 1)) <;> simp) (by
  have e : n - 1 + 1 = n := by omega
  simp [slices_MaxFunc_Limpl_Rat_impl_Rat_b1, tab_len, e])
 unfold slices_MaxFunc_Limpl_Rat_impl_Rat slices_MaxFunc_Limpl_Rat_impl_Rat_k1
 have hl : ¬ (n : Int) < 1 := by omega
 simp only [tab_len, hl, decide_false, Bool.false_eq_true, if_false]
 rw [show (0 : Int) = ((0 : Nat) : Int) from rfl, idxO_tab (by omega), Option.bind_some]
 simp only [Nat.zero_add, mxN_one] at h
 have h' : loopO (slices_MaxFunc_Limpl_Rat_impl_Rat_b1 (tab n r) (fun x0 x1 => impl_compare x0 x1)) ((r 0).1, (r 0).2, 1) = some (mxN r n) := h
 rw [h']
 rfl
end
def asked (g : List (List Int)) (u : List Int) : Bool := isGraph g && (isVec u && ((u.length : Int) == (g.length : Int)))
end Go.PV

set_option linter.all false
namespace Go.PV
end Go.PV

/-
 Plain laws: where a lift comes from.
 Conditions: none.
-/
set_option linter.all false
namespace Go.PV
theorem lowQ_eq {n d : Int} (hd : 0 < d) {r : Rt} (h : lowQ n d = some r) : r.1 * d = n * r.2 ∧ 1 ≤ r.2 := by
 have hr := lowQ_rat h
 have h2 := (isRat_iff.1 hr).1
 have hdn : ¬ d < 0 := by omega
 unfold lowQ lowest at h
 simp only [if_neg hdn] at h
 by_cases h3 : isRat (Int.tdiv n (Int.gcd n d : Int), Int.tdiv d (Int.gcd n d : Int)) = true
 ·rw [if_pos h3] at h
  simp only [if_true] at h
  obtain rfl := Option.some.inj h
  have a : (Int.gcd n d : Int) ∣ n := Int.gcd_dvd_left ..
  have b : (Int.gcd n d : Int) ∣ d := Int.gcd_dvd_right ..
  refine ⟨?_, h2⟩
  show Int.tdiv n (Int.gcd n d : Int) * d = n * Int.tdiv d (Int.gcd n d : Int)
  have e1 := Int.tdiv_mul_cancel a
  have e2 := Int.tdiv_mul_cancel b
  generalize Int.tdiv n (Int.gcd n d : Int) = u at *
  generalize Int.tdiv d (Int.gcd n d : Int) = v at *
  generalize (Int.gcd n d : Int) = g at *
  subst e1
  rw [← e2]
  grind
 ·rw [if_neg h3] at h; simp at h
theorem lt_le {a b c : Rt} (ha : isRat a = true) (hb : isRat b = true) (hc : isRat c = true) (h1 : less a b = true) (h2 : less c b = false) : less a c = true := by
 have a2 := (isRat_iff.1 ha).1
 have b2 := (isRat_iff.1 hb).1
 have c2 := (isRat_iff.1 hc).1
 simp only [less, decide_eq_true_eq, decide_eq_false_iff_not] at *
 have m1 := Int.mul_le_mul_of_nonneg_right (show b.1 * c.2 ≤ c.1 * b.2 by omega) (show 0 ≤ a.2 by omega)
 have m2 := Int.mul_lt_mul_of_pos_right h1 (show 0 < c.2 by omega)
 refine Classical.byContradiction fun h3 => ?_
 have m3 := Int.mul_le_mul_of_nonneg_right (show c.1 * a.2 ≤ a.1 * c.2 by omega) (show 0 ≤ b.2 by omega)
 grind
theorem le_le {a b c : Rt} (ha : isRat a = true) (hb : isRat b = true) (hc : isRat c = true) (h1 : less b a = false) (h2 : less c b = false) : less c a = false := by
 cases h : less c a
 ·rfl
 ·have := lt_le hc ha hb h h1
  rw [h2] at this; cases this
def turnK (y x : Rt) : Int := if less (part x) (part y) = true then flr x - flr y - 1 else flr x - flr y
section
variable {n : Nat} {p : Nat → Pt}
def backQ (q r : Pt) (z : Rt) : Option Rt := (subQ z q.2).bind fun u => (divQ u (slopeQ q r)).bind fun v => addQ q.1 v
theorem LiftT.le (h : LiftT n p) : ∀ {i j : Nat}, i ≤ j → j < n → less (p j).2 (p i).2 = false := by
 intro i j hij hj
 induction j with
 | zero =>
  have : i = 0 := by omega
  subst this; simp [less]
 | succ j ih =>
  by_cases he : i = j + 1
  ·subst he; simp [less]
  ·exact le_le (h.cur.y i (by omega)).1 (h.cur.y j (by omega)).1 (h.cur.y (j + 1) hj).1 (ih (by omega) (by omega)) (h.mono (j + 1) (by omega) hj)
structure UpJ (n : Nat) (p : Nat → Pt) (z : Rt) (j : Nat) : Prop where
 pos : 0 < j
 lt : j < n
 bef : ∀ k, k < j → less (p k).2 z = true
 at' : less (p j).2 z = false
structure FlatJ (n : Nat) (p : Nat → Pt) (j : Nat) : Prop where
 pos : 0 < j
 lt : j < n
 same : ∀ k, j < k → k < n → (p (k - 1)).2 = (p k).2
 step : (p (j - 1)).2 ≠ (p j).2
section
variable (h : Curve n p) {z : Rt} (hz : isRat z = true)
include h hz
end
end
end Go.PV

/-
 Plain laws: what fractions stand for.
 Conditions: none.
-/
set_option linter.all false
namespace Go.PV
def val (r : Rt) : Rat := (r.1 : Rat) / (r.2 : Rat)
theorem cast_pos {d : Int} (h : 0 < d) : (0 : Rat) < (d : Rat) := by exact_mod_cast h
theorem val_mul {r : Rt} (h : 0 < r.2) : val r * (r.2 : Rat) = (r.1 : Rat) := by
 have := cast_pos h
 unfold val
 have h2 : (r.2 : Rat) ≠ 0 := by intro h3; rw [h3] at this; exact absurd this (by decide)
 grind
theorem lt_iff {a b c d : Int} (hb : 0 < b) (hd : 0 < d) {x y : Rat} (hx : x * (b : Rat) = (a : Rat)) (hy : y * (d : Rat) = (c : Rat)) : a * d < c * b ↔ x < y := by
 have pb := cast_pos hb
 have pd := cast_pos hd
 have e : ((a * d : Int) : Rat) < ((c * b : Int) : Rat) ↔ a * d < c * b := by exact_mod_cast Iff.rfl
 rw [← e, Rat.intCast_mul, Rat.intCast_mul, ← hx, ← hy]
 constructor
 ·intro h
  refine Classical.byContradiction fun hno => ?_
  have h1 : y ≤ x := by grind
  have h2 := Rat.mul_le_mul_of_nonneg_left h1 (Rat.le_of_lt (Rat.mul_pos pb pd))
  grind
 ·intro h
  have h2 := Rat.mul_lt_mul_of_pos_left h (Rat.mul_pos pb pd)
  grind
theorem less_val {a b : Rt} (ha : 0 < a.2) (hb : 0 < b.2) : less a b = true ↔ val a < val b := by
 rw [← lt_iff ha hb (val_mul ha) (val_mul hb)]
 simp [less]
theorem yca {a b : Rt} (ha : 0 < a.2) (hb : 0 < b.2) : less a b = false ↔ val b ≤ val a := by
 have := less_val ha hb
 cases h : less a b
 ·rw [h] at this
  have : ¬ val a < val b := fun h1 => by have := this.2 h1; cases this
  exact ⟨fun _ => by grind, fun _ => rfl⟩
 ·rw [h] at this
  have := this.1 rfl
  exact ⟨fun h => (by cases h), fun h => (by grind)⟩
theorem lowQ_val {n d : Int} (hd : 0 < d) {r : Rt} (h : lowQ n d = some r) : val r * (d : Rat) = (n : Rat) := by
 obtain ⟨e, hp⟩ := lowQ_eq hd h
 have h2 := val_mul (r := r) (by omega)
 have p2 := cast_pos (d := r.2) (by omega)
 have pd := cast_pos hd
 have e2 : (r.1 : Rat) * (d : Rat) = (n : Rat) * (r.2 : Rat) := by exact_mod_cast e
 have h3 : (r.2 : Rat) ≠ 0 := by intro h3; rw [h3] at p2; exact absurd p2 (by decide)
 rw [← h2] at e2
 grind
theorem ne0 {d : Int} (h : 0 < d) : (d : Rat) ≠ 0 := by
 have := cast_pos h
 intro h3; rw [h3] at this; exact absurd this (by decide)
section
variable {a b r : Rt} (ha : isRat a = true) (hb : isRat b = true)
include ha hb
theorem addQ_val (h : addQ a b = some r) : val r = val a + val b := by
 have a2 := (isRat_iff.1 ha).1
 have b2 := (isRat_iff.1 hb).1
 have e := lowQ_val (den_pos ha hb) h
 have e1 := val_mul (r := a) (by omega)
 have e2 := val_mul (r := b) (by omega)
 have n1 := ne0 (d := a.2) (by omega)
 have n2 := ne0 (d := b.2) (by omega)
 rw [Rat.intCast_add, Rat.intCast_mul, Rat.intCast_mul, Rat.intCast_mul, ← e1, ← e2] at e
 grind
theorem subQ_val (h : subQ a b = some r) : val r = val a - val b := by
 have a2 := (isRat_iff.1 ha).1
 have b2 := (isRat_iff.1 hb).1
 have e := lowQ_val (den_pos ha hb) h
 have e1 := val_mul (r := a) (by omega)
 have e2 := val_mul (r := b) (by omega)
 have n1 := ne0 (d := a.2) (by omega)
 have n2 := ne0 (d := b.2) (by omega)
 rw [Rat.intCast_sub, Rat.intCast_mul, Rat.intCast_mul, Rat.intCast_mul, ← e1, ← e2] at e
 grind
theorem mulQ_val (h : mulQ a b = some r) : val r = val a * val b := by
 have a2 := (isRat_iff.1 ha).1
 have b2 := (isRat_iff.1 hb).1
 have e := lowQ_val (den_pos ha hb) h
 have e1 := val_mul (r := a) (by omega)
 have e2 := val_mul (r := b) (by omega)
 have n1 := ne0 (d := a.2) (by omega)
 have n2 := ne0 (d := b.2) (by omega)
 rw [Rat.intCast_mul, Rat.intCast_mul, ← e1, ← e2] at e
 grind
theorem divQ_val (hp : 0 < b.1) (h : divQ a b = some r) : val r * val b = val a := by
 have a2 := (isRat_iff.1 ha).1
 have b2 := (isRat_iff.1 hb).1
 unfold divQ at h
 rw [if_neg (by omega)] at h
 have e := lowQ_val (Int.mul_pos (by omega) hp) h
 have e1 := val_mul (r := a) (by omega)
 have e2 := val_mul (r := b) (by omega)
 have n1 := ne0 (d := a.2) (by omega)
 have n2 := ne0 (d := b.2) (by omega)
 rw [Rat.intCast_mul, Rat.intCast_mul, ← e1, ← e2] at e
 grind
end
theorem unit_val {r : Rt} (hr : isRat r = true) : isUnit r = true ↔ (0 : Rat) ≤ val r ∧ val r ≤ 1 := by
 have r2 := (isRat_iff.1 hr).1
 have e := val_mul (r := r) (by omega)
 have p := cast_pos (d := r.2) (by omega)
 simp only [isUnit, Bool.and_eq_true, inB_iff, hr, true_and]
 have h1 := lt_iff (a := r.1) (b := r.2) (c := 0) (d := 1) (x := val r) (y := 0) (by omega) (by omega) e (by simp)
 have h2 := lt_iff (a := 1) (b := 1) (c := r.1) (d := r.2) (x := 1) (y := val r) (by omega) (by omega) (by simp) e
 constructor
 ·intro ⟨h3, h4⟩
  constructor
  ·refine Classical.byContradiction fun hno => ?_
   have := h1.2 (by grind)
   omega
  ·refine Classical.byContradiction fun hno => ?_
   have := h2.2 (by grind)
   omega
 ·intro ⟨h3, h4⟩
  constructor
  ·refine Classical.byContradiction fun hno => ?_
   have := h1.1 (by omega)
   grind
  ·refine Classical.byContradiction fun hno => ?_
   have := h2.1 (by omega)
   grind
end Go.PV

/-
 Plain laws: the laps of a map.
 Conditions: none.
-/
set_option linter.all false
namespace Go.PV
abbrev Trip := Nat × Nat × Int
def encT (t : Trip) : List Int := [(t.1 : Int), (t.2.1 : Int), t.2.2]
def lapStep (l : List Trip) (i : Nat) (s : Int) : List Trip := match l.getLast? with
 | some t => if t.2.2 = s then l.dropLast ++ [(t.1, i + 1, s)] else l ++ [(i, i + 1, s)]
 | none => l ++ [(i, i + 1, s)]
def lapsN (σ : Nat → Int) : Nat → List Trip
 | 0 => []
 | i + 1 => lapStep (lapsN σ i) i (σ i)
theorem ybc (i : Nat) (s : Int) : lapStep [] i s = [(i, i + 1, s)] := rfl
theorem yjb (l : List Trip) (t : Trip) (i : Nat) (s : Int) : lapStep (l ++ [t]) i s = if t.2.2 = s then l ++ [(t.1, i + 1, s)] else l ++ [t] ++ [(i, i + 1, s)] := by
 unfold lapStep
 simp
theorem yqc {α : Type} (l : List α) : l = [] ∨ ∃ l' x, l = l' ++ [x] := by
 rcases List.eq_nil_or_concat l with h | ⟨l', x, h⟩
 ·exact .inl h
 ·exact .inr ⟨l', x, by rw [h, List.concat_eq_append]⟩
structure LapInv (σ : Nat → Int) (i : Nat) : Prop where
 len : (lapsN σ i).length ≤ i
 ne : 0 < i → lapsN σ i ≠ []
 bd : ∀ t ∈ lapsN σ i, t.1 < t.2.1 ∧ t.2.1 ≤ i
theorem lap_inv (σ : Nat → Int) : ∀ i, LapInv σ i
 | 0 => ⟨by simp [lapsN], by omega, by simp [lapsN]⟩
 | i + 1 => by
  have ih := lap_inv σ i
  have hl := ih.len
  have hb := ih.bd
  rcases yqc (lapsN σ i) with h | ⟨l, t, h⟩
  ·have e : lapsN σ (i + 1) = [(i, i + 1, σ i)] := by simp only [lapsN, h, ybc]
   exact ⟨by rw [e]; simp, fun _ => by rw [e]; simp, by rw [e]; simp⟩
  ·rw [h] at hl hb
   have e : lapsN σ (i + 1) = if t.2.2 = σ i then l ++ [(t.1, i + 1, σ i)] else l ++ [t] ++ [(i, i + 1, σ i)] := by simp only [lapsN, h, yjb]
   have ht := hb t (by simp)
   have hbl : ∀ t' ∈ l, t'.1 < t'.2.1 ∧ t'.2.1 ≤ i + 1 := fun t' h' => by have := hb t' (by simp [h']); omega
   simp at hl
   by_cases hs : t.2.2 = σ i
   ·rw [if_pos hs] at e
    refine ⟨by rw [e]; simp; omega, fun _ => by rw [e]; simp, fun t' h' => ?_⟩
    rw [e] at h'
    rcases List.mem_append.1 h' with h' | h'
    ·exact hbl t' h'
    ·simp at h'; subst h'; exact ⟨by show t.1 < i + 1; omega, Nat.le_refl _⟩
   ·rw [if_neg hs] at e
    refine ⟨by rw [e]; simp; omega, fun _ => by rw [e]; simp, fun t' h' => ?_⟩
    rw [e] at h'
    rcases List.mem_append.1 h' with h' | h'
    ·rcases List.mem_append.1 h' with h' | h'
     ·exact hbl t' h'
     ·simp at h'; subst h'; omega
    ·simp at h'; subst h'; exact ⟨Nat.lt_succ_self i, Nat.le_refl _⟩
def sg (n : Int) : Int := if 0 < n then 1 else if n < 0 then -1 else 0
theorem yld (n : Int) : spec_l1Sign n = some (sg n) := by
 unfold spec_l1Sign sg
 by_cases h : 0 < n
 ·simp [h]
 ·by_cases h2 : n < 0 <;> simp [h, h2]
theorem yme (s : Rt) (h : isRat s = true) : impl_sign s = some (sg s.1) := by
 unfold impl_sign impl_zero sg
 rw [Option.bind_some, ypa s (0, 1) (tame_of h) ⟨by decide, by decide, by decide, by decide⟩, Option.bind_some]
 unfold cmp
 simp only [Int.mul_one, Int.zero_mul]
 by_cases h1 : s.1 < 0
 ·have : ¬ 0 < s.1 := by omega
  simp [h1, this]
 ·by_cases h2 : 0 < s.1 <;> simp [h1, h2]
section
variable {m : Nat} {r : Nat → Rt}
theorem last_get (l : List Trip) (t : Trip) : ((l ++ [t]).map encT)[l.length]? = some (encT t) := by simp
theorem last_set (l : List Trip) (t : Trip) (x : List Int) : ((l ++ [t]).map encT).set l.length x = l.map encT ++ [x] := by
 rw [List.map_append, List.set_append]
 simp
theorem ymd (hm : m ≤ 1048576) (hr : ∀ i, i < m → isRat (r i) = true) {i : Nat} (hi : i < m) :
  impl_laps_b1 (tab m r) ((lapsN (fun k => sg (r k).1) i).map encT, (i : Int)) = some (.inl ((lapsN (fun k => sg (r k).1) (i + 1)).map encT, ((i + 1 : Nat) : Int))) := by
 have hinv := lap_inv (fun k => sg (r k).1) i
 have hl := hinv.len
 simp only [impl_laps_b1, tab_len, idxO_tab hi, show ((i : Int) < (m : Int)) from by omega, decide_true, if_true, Option.bind_some, w64_nat (show i < 9223372036854775807 by omega), yme (r i) (hr i hi)]
 rcases yqc (lapsN (fun k => sg (r k).1) i) with h | ⟨l, t, h⟩
 ·have e : lapsN (fun k => sg (r k).1) (i + 1) = [(i, i + 1, sg (r i).1)] := by simp only [lapsN, h, ybc]
  rw [h, e]
  have hw : w64 ((0 : Int) - 1) = -1 := by rw [w64_id (by omega) (by omega)]; rfl
  simp only [List.map_nil, List.length_nil, Int.natCast_zero, hw, show ¬ ((-1 : Int) ≥ 0) by omega, decide_false, Bool.false_eq_true, if_false, Option.bind_some]
  rw [guardO_bind_pos (by simp)]
  rfl
 ·have e : lapsN (fun k => sg (r k).1) (i + 1) = if t.2.2 = sg (r i).1 then l ++ [(t.1, i + 1, sg (r i).1)] else l ++ [t] ++ [(i, i + 1, sg (r i).1)] := by simp only [lapsN, h, yjb]
  rw [h] at hl
  simp at hl
  rw [h]
  have hw : w64 ((((l ++ [t]).map encT).length : Int) - 1) = ((l.length : Nat) : Int) := by
   rw [List.length_map, List.length_append, List.length_singleton, w64_id (by omega) (by omega)]; omega
  simp only [hw, show (((l.length : Nat) : Int) ≥ 0) by omega, decide_true, if_true, idxO_nat, last_get, Option.bind_some, Int.toNat_natCast, last_set]
  have e2 : idxO (encT t) 2 = some t.2.2 := rfl
  have e1 : idxO (encT t) 1 = some ((t.2.1 : Nat) : Int) := rfl
  rw [e2, e1, e]
  simp only [Option.bind_some]
  by_cases hs : t.2.2 = sg (r i).1
  ·have hb : (t.2.2 == sg (r i).1) = true := by simpa using hs
   rw [hb, if_pos rfl, if_pos hs]
   simp only [encT, List.map_append, List.map_cons, List.map_nil, hs]
   rfl
  ·have hb : (t.2.2 == sg (r i).1) = false := by simpa using hs
   rw [hb, if_neg hs]
   simp only [Bool.false_eq_true, if_false]
   rw [guardO_bind_pos (by simp; omega)]
   simp only [encT, List.map_append, List.map_cons, List.map_nil]
theorem ynd (hm : m ≤ 1048576) {i : Nat} (hi : i < m) :
  spec_imLaps_b1 (tab m r) ((lapsN (fun k => sg (r k).1) i).map encT, (i : Int)) = some (.inl ((lapsN (fun k => sg (r k).1) (i + 1)).map encT, ((i + 1 : Nat) : Int))) := by
 have hinv := lap_inv (fun k => sg (r k).1) i
 have hl := hinv.len
 simp only [spec_imLaps_b1, tab_len, idxO_tab hi, show ((i : Int) < (m : Int)) from by omega, decide_true, if_true, Option.bind_some, w64_nat (show i < 9223372036854775807 by omega), yld]
 rcases yqc (lapsN (fun k => sg (r k).1) i) with h | ⟨l, t, h⟩
 ·have e : lapsN (fun k => sg (r k).1) (i + 1) = [(i, i + 1, sg (r i).1)] := by simp only [lapsN, h, ybc]
  rw [h, e]
  simp only [List.map_nil, List.length_nil, Int.natCast_zero, show ¬ ((0 : Int) > 0) by omega, decide_false, Bool.false_eq_true, if_false, Option.bind_some]
  rw [guardO_bind_pos (by simp)]
  rfl
 ·have e : lapsN (fun k => sg (r k).1) (i + 1) = if t.2.2 = sg (r i).1 then l ++ [(t.1, i + 1, sg (r i).1)] else l ++ [t] ++ [(i, i + 1, sg (r i).1)] := by simp only [lapsN, h, yjb]
  rw [h] at hl
  simp at hl
  rw [h]
  have hw : w64 ((((l ++ [t]).map encT).length : Int) - 1) = ((l.length : Nat) : Int) := by
   rw [List.length_map, List.length_append, List.length_singleton, w64_id (by omega) (by omega)]; omega
  have hp : ((((l ++ [t]).map encT).length : Int) > 0) := by
   rw [List.length_map, List.length_append, List.length_singleton]; omega
  simp only [hw, hp, decide_true, if_true, idxO_nat, last_get, Option.bind_some, Int.toNat_natCast, last_set]
  have e2 : idxO (encT t) 2 = some t.2.2 := rfl
  have e1 : idxO (encT t) 1 = some ((t.2.1 : Nat) : Int) := rfl
  rw [e2, e1, e]
  simp only [Option.bind_some]
  by_cases hs : t.2.2 = sg (r i).1
  ·have hb : (t.2.2 == sg (r i).1) = true := by simpa using hs
   rw [hb, if_pos rfl, if_pos hs]
   simp only [encT, List.map_append, List.map_cons, List.map_nil, hs]
   rfl
  ·have hb : (t.2.2 == sg (r i).1) = false := by simpa using hs
   rw [hb, if_neg hs]
   simp only [Bool.false_eq_true, if_false]
   rw [guardO_bind_pos (by simp; omega)]
   simp only [encT, List.map_append, List.map_cons, List.map_nil]
end
section
variable {n : Nat} {p : Nat → Pt}
def wayOf (p : Nat → Pt) : Nat → Int := fun i => sg (slopeQ (p i) (p (i + 1))).1
def lapsT (n : Nat) (p : Nat → Pt) : List Trip := lapsN (wayOf p) (n - 1)
theorem yec (h : isMapT n p) (h2 : 2 ≤ n) (hn : n ≤ 12) : impl_laps (tab n p) = some ((lapsT n p).map encT) := by
 have hx := loop_idx (body := impl_laps_b1 (slopesT n p)) (n - 1) (fun i => ((lapsN (wayOf p) i).map encT, (i : Int))) ((lapsT n p).map encT) (fun i hi =>
  ymd (m := n - 1) (r := fun i => slopeQ (p i) (p (i + 1))) (by omega) (fun i hi => by obtain ⟨u, v, hs⟩ := piece_ok h (i := i) (by omega); exact hs.rs) hi) (by
  simp [impl_laps_b1, slopesT, tab_len, lapsT])
 unfold impl_laps
 rw [yob h h2 hn, Option.bind_some, show (0 : Int) = ((0 : Nat) : Int) from rfl]
 simp only [lapsN, List.map_nil] at hx
 rw [hx]; rfl
theorem yqa (h : isMapT n p) (h2 : 2 ≤ n) (hn : n ≤ 12) : spec_imLaps (tab n p) = some ((lapsT n p).map encT) := by
 have hx := loop_idx (body := spec_imLaps_b1 (slopesT n p)) (n - 1) (fun i => ((lapsN (wayOf p) i).map encT, (i : Int))) ((lapsT n p).map encT) (fun i hi =>
  ynd (m := n - 1) (r := fun i => slopeQ (p i) (p (i + 1))) (by omega) hi) (by
  simp [spec_imLaps_b1, slopesT, tab_len, lapsT])
 unfold spec_imLaps
 rw [ycb h h2 hn, Option.bind_some, show (0 : Int) = ((0 : Nat) : Int) from rfl]
 simp only [lapsN, List.map_nil] at hx
 rw [hx]; rfl
theorem ylc (h2 : 2 ≤ n) : 1 ≤ (lapsT n p).length ∧ (lapsT n p).length ≤ n - 1 := by
 have h := lap_inv (wayOf p) (n - 1)
 have h1 := h.len
 have h3 := h.ne (by omega)
 unfold lapsT
 have := List.length_pos_iff.2 h3
 omega
end
def lbN (c : Int) : Nat → Int → Int × Bool
 | 0, o => (o, true)
 | k + 1, o => if o * c > 1000000000 then (0, false) else lbN c k (o * c)
theorem impl_lb (xs : List (List Int)) (hx : xs.length ≤ 12) (n : Nat) (hn : n ≤ 12) : ∀ k o, k ≤ n → 0 ≤ o → o ≤ 1000000000 →
  (loopO (impl_LapBound_b1 (n : Int) xs) (o, ((n - k : Nat) : Int))).bind (fun y8 => (Sum.elim (fun p => some p) (fun p => impl_LapBound_k1 p)) y8) = some (lbN xs.length k o)
 | 0, o, _, _, _ => by
  rw [loopO_eq]
  simp [impl_LapBound_b1, impl_LapBound_k1, lbN]
 | k + 1, o, hk, h0, h1 => by
  have hm : 0 ≤ o * (xs.length : Int) ∧ o * (xs.length : Int) ≤ 1000000000 * 12 := ⟨Int.mul_nonneg h0 (by omega), Int.mul_le_mul h1 (by omega) (by omega) (by omega)⟩
  rw [loopO_eq]
  have hlt : (((n - (k + 1) : Nat) : Int) < (n : Int)) := by omega
  simp only [impl_LapBound_b1, hlt, decide_true, if_true, w64_id (n := o * (xs.length : Int)) (by omega) (by omega), w64_nat (show n - (k + 1) < 9223372036854775807 by omega)]
  by_cases hb : o * (xs.length : Int) > 1000000000
  ·simp [hb, lbN]
  ·simp only [hb, decide_false, Bool.false_eq_true, if_false]
   rw [show n - (k + 1) + 1 = n - k by omega, impl_lb xs hx n hn k _ (by omega) hm.1 (by omega)]
   simp [lbN, hb]
theorem spec_lb (f : List Pt) (xs : List (List Int)) (hf : spec_imLaps f = some xs) (hx : xs.length ≤ 12) : ∀ (k : Nat) (o : Int), k ≤ 12 → 0 ≤ o → o ≤ 1000000000 →
  (loopO (spec_LapBound_b1 f) ((k : Int), o)).bind (fun y8 => (Sum.elim (fun p => some p) (fun p => spec_LapBound_k1 p)) y8) = some (lbN xs.length k o)
 | 0, o, _, _, _ => by
  rw [loopO_eq]
  simp [spec_LapBound_b1, spec_LapBound_k1, lbN]
 | k + 1, o, hk, h0, h1 => by
  have hm : 0 ≤ o * (xs.length : Int) ∧ o * (xs.length : Int) ≤ 1000000000 * 12 := ⟨Int.mul_nonneg h0 (by omega), Int.mul_le_mul h1 (by omega) (by omega) (by omega)⟩
  rw [loopO_eq]
  have hlt : (((k + 1 : Nat) : Int) > 0) := by omega
  simp only [spec_LapBound_b1, hlt, decide_true, if_true, hf, Option.bind_some, w64_id (n := o * (xs.length : Int)) (by omega) (by omega), w64_pred (show 0 < k + 1 by omega) (by omega), Nat.add_sub_cancel]
  by_cases hb : o * (xs.length : Int) > 1000000000
  ·simp [hb, lbN]
  ·simp only [hb, decide_false, Bool.false_eq_true, if_false]
   rw [spec_lb f xs hf hx k _ (by omega) hm.1 (by omega)]
   simp [lbN, hb]
theorem yde (f : List Pt) (k : Int) (hl : f.length ≤ 4611686018427387904) : ∃ r, spec_LapBound f k = some r ∧ impl_LapBound f k = some r := by
 obtain ⟨c, h1, h2, h3⟩ := ypc f hl
 unfold spec_LapBound impl_LapBound
 rw [h1, h2]
 cases c
 ·exact ⟨_, rfl, rfl⟩
 ·obtain ⟨n, p, rfl, h4, h5, hm⟩ := h3 rfl
  simp only [Option.bind_some, Bool.not_true, Bool.false_eq_true, if_false, yka, yna]
  cases hk : inB 0 12 k
  ·exact ⟨_, rfl, rfl⟩
  ·obtain ⟨k1, k2⟩ := inB_iff.1 hk
   obtain ⟨m, rfl⟩ := Int.eq_ofNat_of_zero_le k1
   have hlen := ylc (n := n) (p := p) h4
   have h6 : ((lapsT n p).map encT).length ≤ 12 := by rw [List.length_map]; omega
   refine ⟨lbN ((lapsT n p).map encT).length m 1, ?_, ?_⟩
   ·exact spec_lb (tab n p) _ (yqa hm h4 h5) h6 m 1 (by omega) (by omega) (by omega)
   ·simp only [Bool.not_true, Bool.false_eq_true, if_false, yec hm h4 h5, Option.bind_some]
    have := impl_lb _ h6 m (by omega) m 1 (Nat.le_refl _) (by omega) (by omega)
    rw [Nat.sub_self] at this
    exact this
def fullB (a b : Rt) : Bool := (a == (0, 1) && b == (1, 1)) || (a == (1, 1) && b == (0, 1))
section
variable {n : Nat} {p : Nat → Pt}
def fullN (p : Nat → Pt) (l : List Trip) : Nat := (l.filter fun t => fullB (p t.1).2 (p t.2.1).2).length
end
end Go.PV

/-
 Plain laws: marks on lists, and that they are held.
 Conditions: none.
-/
set_option linter.all false
namespace Go.PV
section
variable {α : Type}
def marks (w : Nat) (f : Int → α) (n : Nat) (k : Int) : List α := tab n fun i => f (k + (w : Int) * i)
end
def markI (n : Nat) (k : Int) : List Int := marks 1 (fun c => c) n k
def markR (n : Nat) (k : Int) : List (Int × Int) := marks 2 (fun c => (c, c + 1)) n k
end Go.PV

/-
 Plain laws: values of the turning point.
 Conditions: none.
-/
set_option linter.all false
namespace Go.PV
section
variable {n : Nat} {p : Nat → Pt}
theorem yee {r : Rt} (h : coord r = true) : (0 : Rat) ≤ val r ∧ val r ≤ 1 := by
 have hr := yfa h
 have c := coord_bd h
 refine (unit_val hr).1 ?_
 simp only [isUnit, Bool.and_eq_true, inB_iff]
 exact ⟨hr, c.1, c.2.1⟩
theorem atQ_unit (h : Curve n p) (hy : ∀ i, i < n → coord (p i).2 = true) {x y : Rt} (hx : isUnit x = true) (ha : atQ n p x = some y) : isUnit y = true := by
 have hr : isRat x = true := by simp only [isUnit, Bool.and_eq_true] at hx; exact hx.1
 have hyr := atQ_rat ha
 obtain ⟨j, hj⟩ := findJ h hx
 rw [atQ_eq hj] at ha
 have hlt := hj.lt
 have hn := h.lo
 have hj1 : j - 1 + 1 < n := by omega
 obtain ⟨u, v, hs⟩ := h.piece hj1
 unfold onQ at ha
 obtain ⟨far, e1, ha⟩ := Option.bind_eq_some_iff.1 ha
 obtain ⟨up, e2, ha⟩ := Option.bind_eq_some_iff.1 ha
 have rx0 := yfa (h.x (j - 1) (by omega))
 have rx1 := yfa (h.x (j - 1 + 1) hj1)
 have ry0 := (h.y (j - 1) (by omega)).1
 have ry1 := (h.y (j - 1 + 1) hj1).1
 have d2 : ∀ {z : Rt}, isRat z = true → 0 < z.2 := fun hz => by have := (isRat_iff.1 hz).1; omega
 have q1 := subQ_val hr rx0 e1
 have q2 := mulQ_val hs.rs (subQ_rat e1) e2
 have q3 := addQ_val ry0 (mulQ_rat e2) ha
 have q4 := subQ_val ry1 ry0 hs.up
 have q5 := subQ_val rx1 rx0 hs.far
 have q6 := divQ_val hs.ru hs.rv hs.vp hs.div
 have b0 := yee (hy (j - 1) (by omega))
 have b1 := yee (hy (j - 1 + 1) hj1)
 have hup := (less_val (d2 rx0) (d2 rx1)).1 (by have := h.up (j - 1 + 1) (by omega) hj1; simpa using this)
 have hux := (unit_val hr).1 hx
 have hlo : val (p (j - 1)).1 ≤ val x := by
  by_cases h0 : j = 0
  ·subst h0
   rw [show 0 - 1 = 0 from rfl, h.fst]
   have : val (0, 1) = 0 := by have := val_mul (r := ((0 : Int), (1 : Int))) (by decide); simpa using this
   rw [this]; exact hux.1
  ·have := (less_val (d2 rx0) (d2 hr)).1 (hj.bef (j - 1) (by omega))
   exact Rat.le_of_lt this
 have hhi : val x ≤ val (p (j - 1 + 1)).1 := by
  by_cases h0 : j = 0
  ·subst h0
   have := (yca (d2 rx0) (d2 hr)).1 hj.at'
   rw [show 0 - 1 = 0 from rfl] at hup
   grind
  ·rw [show j - 1 + 1 = j by omega] at rx1 ⊢
   exact (yca (d2 rx1) (d2 hr)).1 hj.at'
 refine (unit_val hyr).2 ?_
 rw [q4, q5] at q6
 rw [q3, q2, q1]
 generalize val (slopeQ (p (j - 1)) (p (j - 1 + 1))) = s at *
 generalize val (p (j - 1)).1 = x0 at *
 generalize val (p (j - 1 + 1)).1 = x1 at *
 generalize val (p (j - 1)).2 = y0 at *
 generalize val (p (j - 1 + 1)).2 = y1 at *
 generalize val x = z at *
 rcases Rat.le_total (a := 0) (b := s) with h1 | h1
 ·have m1 := Rat.mul_le_mul_of_nonneg_left (show z - x0 ≤ x1 - x0 by grind) h1
  have m2 := Rat.mul_nonneg h1 (show 0 ≤ z - x0 by grind)
  grind
 ·have m1 := Rat.mul_le_mul_of_nonneg_left (show z - x0 ≤ x1 - x0 by grind) (show 0 ≤ -s by grind)
  have m2 := Rat.mul_nonneg (show 0 ≤ -s by grind) (show 0 ≤ z - x0 by grind)
  grind
noncomputable def vQ (n : Nat) (p : Nat → Pt) (c : Rt) : Nat → Option Rt
 | 0 => some c
 | k + 1 => (vQ n p c k).bind (atQ n p)
noncomputable def vv (n : Nat) (p : Nat → Pt) (c : Rt) (k : Nat) : Rt := (vQ n p c k).getD (0, 0)
variable {c : Rt}
theorem vQ_none {k m : Nat} (h : vQ n p c k = none) (hm : k ≤ m) : vQ n p c m = none := by
  induction m with
  | zero => have : k = 0 := by omega
            subst this; exact h
  | succ m ih =>
    by_cases hk : k = m + 1
    · subst hk; exact h
    · simp [vQ, ih (by omega)]
structure Stop (n : Nat) (p : Nat → Pt) (c : Rt) (m L : Nat) : Prop where
 le : L ≤ m
 some : vQ n p c L = some (vv n p c L)
 stop : L = m ∨ vQ n p c (L + 1) = none
theorem Stop.uniq {m L L' : Nat} (h : Stop n p c m L) (h' : Stop n p c m L') : L = L' := by
 rcases Nat.lt_trichotomy L L' with h1 | h1 | h1
 ·rcases h.stop with h2 | h2
  ·have := h'.le; omega
  ·have := vQ_none h2 (show L + 1 ≤ L' by omega)
   rw [h'.some] at this; cases this
 ·exact h1
 ·rcases h'.stop with h2 | h2
  ·have := h.le; omega
  ·have := vQ_none h2 (show L' + 1 ≤ L by omega)
   rw [h.some] at this; cases this
end
section
variable {n : Nat} {p : Nat → Pt} {t0 t1 : Trip}
end
end Go.PV

set_option linter.all false
namespace Go.PV
def flatP (xs : List Pt) (n : Nat) : Prop := ∃ i a b, 0 < i ∧ i < n ∧ xs[i - 1]? = some a ∧ xs[i]? = some b ∧ a.2 = b.2
end Go.PV

/-
 Plain laws: plateaus.
 Conditions: none.
-/
set_option linter.all false
namespace Go.PV
def markV (n : Nat) (k : Int) : List Pt := marks 4 (fun c => ((c, c + 1), (c + 1 + 1, c + 1 + 1 + 1))) n k
end Go.PV

/-
 Plain laws: orbits of lifts.
 Conditions: none.
-/
set_option linter.all false
namespace Go.PV
section
variable {n : Nat} {p : Nat → Pt} {x : Rt}
noncomputable def orbQ (n : Nat) (p : Nat → Pt) (x : Rt) : Nat → Option Rt
 | 0 => some x
 | k + 1 => (orbQ n p x k).bind fun y => if near y = true then liftQ n p y else none
noncomputable def orb (n : Nat) (p : Nat → Pt) (x : Rt) (k : Nat) : Rt := (orbQ n p x k).getD (0, 0)
open Classical in
noncomputable def runR (n : Nat) (p : Nat → Pt) (x : Rt) (m : Nat) : List Rt × Bool := if (orbQ n p x m).isSome = true then (tab (m + 1) (orb n p x), true) else ([], false)
end
def turnB (r : Rt) : Bool := near r && decide (r.2 ≤ 6)
end Go.PV

/-
 Plain laws: orbits of lifts, handed back.
 Conditions: none.
-/
set_option linter.all false
namespace Go.PV
end Go.PV

/-
 Plain laws: how far a lift's points are moved.
 Conditions: none.
-/
set_option linter.all false
namespace Go.PV
def dispF (p : Nat → Pt) (i : Nat) : Rt := (subQ (p i).2 (p i).1).getD (0, 0)
section
variable {n : Nat} {p : Nat → Pt}
end
end Go.PV

/-
 Plain laws: values of lifts keep their order.
 Conditions: none.
-/
set_option linter.all false
namespace Go.PV
section
variable {n : Nat} {p : Nat → Pt}
theorem rt_pos {r : Rt} (h : isRat r = true) : 0 < r.2 := by have := (isRat_iff.1 h).1; omega
theorem Curve.xr (h : Curve n p) {i : Nat} (hi : i < n) : isRat (p i).1 = true := yfa (h.x i hi)
theorem Curve.yr (h : Curve n p) {i : Nat} (hi : i < n) : isRat (p i).2 = true := (h.y i hi).1
theorem Curve.xlt (h : Curve n p) : ∀ {i j : Nat}, i < j → j < n → val (p i).1 < val (p j).1 := by
 intro i j hij hj
 obtain ⟨k, rfl⟩ : ∃ k, j = i + 1 + k := ⟨j - (i + 1), by omega⟩
 induction k with
 | zero =>
  have := h.up (i + 1) (by omega) hj
  rw [show i + 1 - 1 = i by omega] at this
  exact (less_val (rt_pos (h.xr (by omega))) (rt_pos (h.xr hj))).1 this
 | succ k ih =>
  have h1 := ih (by omega) (by omega)
  have := h.up (i + 1 + (k + 1)) (by omega) hj
  rw [show i + 1 + (k + 1) - 1 = i + 1 + k by omega] at this
  have h2 := (less_val (rt_pos (h.xr (by omega))) (rt_pos (h.xr hj))).1 this
  grind
theorem LiftT.yle (h : LiftT n p) : ∀ {i j : Nat}, i ≤ j → j < n → val (p i).2 ≤ val (p j).2 := by
 intro i j hij hj
 obtain ⟨k, rfl⟩ : ∃ k, j = i + k := ⟨j - i, by omega⟩
 induction k with
 | zero => exact Rat.le_refl
 | succ k ih =>
  have h1 := ih (by omega) (by omega)
  have := h.mono (i + (k + 1)) (by omega) hj
  rw [show i + (k + 1) - 1 = i + k by omega] at this
  have h2 := (yca (rt_pos (h.cur.yr hj)) (rt_pos (h.cur.yr (by omega)))).1 this
  exact Rat.le_trans h1 h2
structure OnP (p : Nat → Pt) (m : Nat) (x y : Rt) : Prop where
 lo : val (p m).1 ≤ val x
 hi : val x ≤ val (p (m + 1)).1
 eq : (val y - val (p m).2) * (val (p (m + 1)).1 - val (p m).1) = (val (p (m + 1)).2 - val (p m).2) * (val x - val (p m).1)
theorem onP_of (h : Curve n p) {x y : Rt} (hx : isUnit x = true) {j : Nat} (hj : AtJ n p x j) (hy : atQ n p x = some y) : j - 1 + 1 < n ∧ OnP p (j - 1) x y := by
 have hr : isRat x = true := by simp only [isUnit, Bool.and_eq_true] at hx; exact hx.1
 have hlt := hj.lt
 have hn := h.lo
 have hj1 : j - 1 + 1 < n := by omega
 refine ⟨hj1, ?_⟩
 have hu := (unit_val hr).1 hx
 have f0 : val (p 0).1 = 0 := by rw [h.fst]; show ((0 : Int) : Rat) / ((1 : Int) : Rat) = 0; grind
 have lo : val (p (j - 1)).1 ≤ val x := by
  by_cases h0 : j = 0
  ·subst h0; show val (p 0).1 ≤ val x; rw [f0]; exact hu.1
  ·have := (less_val (rt_pos (h.xr (show j - 1 < n by omega))) (rt_pos hr)).1 (hj.bef (j - 1) (by omega))
   grind
 have hi : val x ≤ val (p (j - 1 + 1)).1 := by
  have h1 := (yca (rt_pos (h.xr hlt)) (rt_pos hr)).1 hj.at'
  by_cases h0 : j = 0
  ·subst h0
   have := h.xlt (i := 0) (j := 0 - 1 + 1) (by omega) hj1
   grind
  ·rw [show j - 1 + 1 = j by omega]; exact h1
 refine ⟨lo, hi, ?_⟩
 rw [atQ_eq hj] at hy
 obtain ⟨u, v, hs⟩ := h.piece hj1
 unfold onQ at hy
 obtain ⟨far, e1, hy⟩ := Option.bind_eq_some_iff.1 hy
 obtain ⟨up, e2, hy⟩ := Option.bind_eq_some_iff.1 hy
 have v1 := subQ_val hr (h.xr (show j - 1 < n by omega)) e1
 have v2 := mulQ_val hs.rs (subQ_rat e1) e2
 have v3 := addQ_val (h.yr (show j - 1 < n by omega)) (mulQ_rat e2) hy
 have v4 := subQ_val (h.yr hj1) (h.yr (show j - 1 < n by omega)) hs.up
 have v5 := subQ_val (h.xr hj1) (h.xr (show j - 1 < n by omega)) hs.far
 have v6 := divQ_val hs.ru hs.rv hs.vp hs.div
 rw [v4, v5] at v6
 rw [v3, v2, v1, ← v6]
 grind
theorem OnP.range (h : LiftT n p) {m : Nat} (hm : m + 1 < n) {x y : Rt} (hp : OnP p m x y) : val (p m).2 ≤ val y ∧ val y ≤ val (p (m + 1)).2 := by
 have hx := h.cur.xlt (show m < m + 1 by omega) hm
 have hy := h.yle (show m ≤ m + 1 by omega) hm
 obtain ⟨lo, hi, eq⟩ := hp
 have d : 0 < val (p (m + 1)).1 - val (p m).1 := by grind
 constructor
 ·refine Classical.byContradiction fun hno => ?_
  have h1 : val y - val (p m).2 < 0 := by grind
  have h2 := Rat.mul_lt_mul_of_pos_right h1 d
  have h3 := Rat.mul_nonneg (show 0 ≤ val (p (m + 1)).2 - val (p m).2 by grind) (show 0 ≤ val x - val (p m).1 by grind)
  grind
 ·refine Classical.byContradiction fun hno => ?_
  have h1 : val (p (m + 1)).2 - val (p m).2 < val y - val (p m).2 := by grind
  have h2 := Rat.mul_lt_mul_of_pos_right h1 d
  have h3 := Rat.mul_le_mul_of_nonneg_left (show val x - val (p m).1 ≤ val (p (m + 1)).1 - val (p m).1 by grind) (show 0 ≤ val (p (m + 1)).2 - val (p m).2 by grind)
  grind
theorem OnP.mono (h : LiftT n p) {m : Nat} (hm : m + 1 < n) {x y x' y' : Rt} (hp : OnP p m x y) (hp' : OnP p m x' y') (hx : val x ≤ val x') : val y ≤ val y' := by
 have d0 := h.cur.xlt (show m < m + 1 by omega) hm
 have hy := h.yle (show m ≤ m + 1 by omega) hm
 have e := hp.eq
 have e' := hp'.eq
 have d : 0 < val (p (m + 1)).1 - val (p m).1 := by grind
 refine Classical.byContradiction fun hno => ?_
 have h1 : val y' < val y := by grind
 have h2 := Rat.mul_lt_mul_of_pos_right h1 d
 have h3 := Rat.mul_le_mul_of_nonneg_left hx (show 0 ≤ val (p (m + 1)).2 - val (p m).2 by grind)
 grind
end
end Go.PV

/-
 Plain laws: characteristic polynomials.
 Conditions: none.
-/
set_option linter.all false
namespace Go.PV
def mulW (n : Nat) (A M : Nat → Nat → Int) (i j : Nat) : Int := foldN n (fun s l => w64 (s + w64 (A i l * M l j))) 0
def trW (n : Nat) (P : Nat → Nat → Int) : Int := foldN n (fun s i => w64 (s + P i i)) 0
def addD (M : Nat → Nat → Int) (c : Int) (i j : Nat) : Int := if i = j then w64 (M i j + c) else M i j
section
variable {n : Nat} {A : Nat → Nat → Int}
def chN (n : Nat) (A : Nat → Nat → Int) : Nat → (Nat → Int) × (Nat → Nat → Int)
 | 0 => (fun i => if i = n then 1 else 0, fun _ _ => 0)
 | k + 1 => (fun i => if i = n - (k + 1) then w64 (Int.tdiv (w64 (0 - trW n (mulW n A (addD (chN n A k).2 ((chN n A k).1 (n - k)))))) ((k + 1 : Nat) : Int)) else (chN n A k).1 i, mulW n A (addD (chN n A k).2 ((chN n A k).1 (n - k))))
end
def isPoly (c : List Int) : Bool := decide ((c.length : Int) ≤ 9) && (c.all (inB (-1000000) 1000000))
end Go.PV

/-
 Plain laws: lists turned round, ones.
 Conditions: none.
-/
set_option linter.all false
namespace Go.PV
section
variable {α : Type} [Inhabited α]
def revSt (xs : List α) (k : Nat) : List α := tab xs.length fun p => if p < k ∨ xs.length ≤ p + k then xs.getD (xs.length - 1 - p) default else xs.getD p default
theorem getD_lt {xs : List α} {i : Nat} (h : i < xs.length) : xs[i]? = some (xs.getD i default) := by simp [h]
theorem rev_loop (xs : List α) (hl : xs.length ≤ 4611686018427387904) (body : (List α × Int × Int) → Option ((List α × Int × Int) ⊕ List α))
  (hb : ∀ x, body x = if (decide (x.2.1 < x.2.2)) = true then (idxO x.1 x.2.1).bind fun v4 => (idxO x.1 x.2.2).bind fun v5 => (guardO (x.2.1 ≠ x.2.2)).bind fun u6 =>
   some (.inl (((x.1.set (Int.toNat x.2.1) v5).set (Int.toNat x.2.2) v4), (w64 (x.2.1 + 1)), (w64 (x.2.2 - 1)))) else some (.inr x.1)) :
  loopO body (xs, 0, w64 ((xs.length : Int) - 1)) = some xs.reverse := by
 have hx := loop_idx (body := body) (xs.length / 2) (fun k => (revSt xs k, (k : Int), ((xs.length : Int) - 1 - k))) xs.reverse (fun k hk => by
  have h1 : k < xs.length := by omega
  have h2 : xs.length - 1 - k < xs.length := by omega
  have e1 : ((xs.length : Int) - 1 - k) = ((xs.length - 1 - k : Nat) : Int) := by omega
  rw [hb]
  simp only [e1, show ((k : Int) < ((xs.length - 1 - k : Nat) : Int)) from by omega, decide_true, if_true]
  rw [revSt, idxO_tab h1, idxO_tab h2, Option.bind_some, Option.bind_some, guardO_bind_pos (by omega)]
  have e3 : ¬ (k < k ∨ xs.length ≤ k + k) := by omega
  have e4 : ¬ (xs.length - 1 - k < k ∨ xs.length ≤ xs.length - 1 - k + k) := by omega
  rw [if_neg e3, if_neg e4, w64_nat (show k < 9223372036854775807 by omega), w64_id (by omega) (by omega), Int.toNat_natCast, Int.toNat_natCast, tab_set h1, tab_set h2]
  congr 2
  refine Prod.ext ?_ (Prod.ext rfl (by show ((xs.length - 1 - k : Nat) : Int) - 1 = (xs.length : Int) - 1 - ((k + 1 : Nat) : Int); omega))
  refine tab_ext fun p hp => ?_
  by_cases c1 : p = xs.length - 1 - k
  ·subst c1
   rw [if_pos rfl, if_pos (by omega), show xs.length - 1 - (xs.length - 1 - k) = k from by omega]
  ·rw [if_neg c1]
   by_cases c2 : p = k
   ·subst c2; rw [if_pos rfl, if_pos (by omega)]
   ·rw [if_neg c2]
    by_cases c3 : p < k ∨ xs.length ≤ p + k
    ·rw [if_pos c3, if_pos (by omega)]
    ·rw [if_neg c3, if_neg (by omega)]) (by
  rw [hb]
  have : ¬ (((xs.length / 2 : Nat) : Int) < ((xs.length : Int) - 1 - (xs.length / 2 : Nat))) := by omega
  simp only [this, decide_false, Bool.false_eq_true, if_false]
  congr 2
  apply List.ext_getElem?
  intro p
  by_cases hp : p < xs.length
  ·rw [revSt, tab_get hp, List.getElem?_reverse hp, getD_lt (by omega)]
   congr 1
   split
   ·rfl
   ·congr 1; omega
  ·rw [List.getElem?_eq_none (by rw [revSt, tab_len]; omega), List.getElem?_eq_none (by simp; omega)])
 have e0 : revSt xs 0 = xs := by
  apply List.ext_getElem?
  intro p
  by_cases hp : p < xs.length
  ·rw [revSt, tab_get hp, if_neg (by omega), getD_lt hp]
  ·rw [List.getElem?_eq_none (by rw [revSt, tab_len]; omega), List.getElem?_eq_none (by omega)]
 simp only [e0] at hx
 rw [w64_id (by omega) (by omega)]
 have : ((xs.length : Int) - 1) = (xs.length : Int) - 1 - ((0 : Nat) : Int) := by omega
 rw [this]
 exact hx
end
theorem mul_1_0 : math_bits_Mul 1 0 = some (0, 0) := by kernel_rfl
theorem mul_1_1 : math_bits_Mul 1 1 = some (0, 1) := by kernel_rfl
theorem mul_1_2 : math_bits_Mul 1 2 = some (0, 2) := by kernel_rfl
theorem mul_1_3 : math_bits_Mul 1 3 = some (0, 3) := by kernel_rfl
theorem mul_1_4 : math_bits_Mul 1 4 = some (0, 4) := by kernel_rfl
theorem mul_1_5 : math_bits_Mul 1 5 = some (0, 5) := by kernel_rfl
theorem mul_1_6 : math_bits_Mul 1 6 = some (0, 6) := by kernel_rfl
theorem mul_1_7 : math_bits_Mul 1 7 = some (0, 7) := by kernel_rfl
theorem mul_1_8 : math_bits_Mul 1 8 = some (0, 8) := by kernel_rfl
theorem mul_one (n : Nat) (hn : n ≤ 8) : math_bits_Mul 1 (n : Int) = some (0, (n : Int)) := by
 match n, hn with
 | 0, _ => exact mul_1_0
 | 1, _ => exact mul_1_1
 | 2, _ => exact mul_1_2
 | 3, _ => exact mul_1_3
 | 4, _ => exact mul_1_4
 | 5, _ => exact mul_1_5
 | 6, _ => exact mul_1_6
 | 7, _ => exact mul_1_7
 | 8, _ => exact mul_1_8
 | n + 9, h => omega
def trimZ (c : List Int) : List Int := (c.reverse.dropWhile (· == 0)).reverse
end Go.PV

/-
 Plain laws: the end values of iterates.
 Conditions: none.
-/
set_option linter.all false
namespace Go.PV
theorem yjf (xs : List Rt) (f : Rt → Option Bool) (q : Rt → Bool) (hf : ∀ x ∈ xs, f x = some (q x)) (hl : xs.length ≤ 4611686018427387904) :
  slices_IndexFunc_Limpl_Rat_impl_Rat xs f = some (match xs.findIdx? q with | some i => (i : Int) | none => -1) := by
 have h := loop_first (xs := xs) (body := slices_IndexFunc_Limpl_Rat_impl_Rat_b1 xs f) q (fun i => (i : Int)) (fun i => .inl (i : Int)) (.inr ()) (fun i x hx => by
  have hi := getElem?_lt hx
  simp only [slices_IndexFunc_Limpl_Rat_impl_Rat_b1, idxO_nat, hx, hf x (List.mem_of_getElem? hx), Option.bind_some, w64_nat (show i < 9223372036854775807 by omega), show ((i : Int) < (xs.length : Int)) from by omega, decide_true, if_true]
  cases q x <;> rfl) (by simp [slices_IndexFunc_Limpl_Rat_impl_Rat_b1])
 unfold slices_IndexFunc_Limpl_Rat_impl_Rat
 rw [show (0 : Int) = ((0 : Nat) : Int) from rfl, h]
 cases xs.findIdx? q <;> rfl
theorem yfe (xs : List Rt) (f : Rt → Option Bool) (q : Rt → Bool) (hf : ∀ x ∈ xs, f x = some (q x)) (hl : xs.length ≤ 1048576) : slices_DeleteFunc_Limpl_Rat_impl_Rat xs f = some (xs.filter fun x => !q x) := by
 unfold slices_DeleteFunc_Limpl_Rat_impl_Rat
 rw [yjf xs f q hf (by omega), Option.bind_some]
 cases h : xs.findIdx? q with
 | none =>
  have hn := List.findIdx?_eq_none_iff.1 h
  simp only [show ((-1 : Int) == -1) = true from rfl, if_true]
  congr 1
  exact (List.filter_eq_self.2 fun x hx => by rw [hn x hx]; rfl).symm
 | some i0 =>
  obtain ⟨hi, hp, hlt⟩ := List.findIdx?_eq_some_iff_getElem.1 h
  have e0 : ((i0 : Int) == -1) = false := by simp
  simp only [e0, Bool.false_eq_true, if_false]
  have hpre : ∀ j, j ≤ i0 → (xs.take j).filter (fun x => !q x) = xs.take j := fun j hj => List.filter_eq_self.2 fun x hx => by
   obtain ⟨k, hk⟩ := List.mem_iff_getElem?.1 hx
   obtain ⟨h1, h2⟩ := take_get hk
   have hkl : k < xs.length := (List.getElem?_eq_some_iff.1 h2).1
   have := hlt k (by omega)
   rw [List.getElem?_eq_getElem hkl] at h2
   rw [← Option.some.inj h2]
   simpa using this
  obtain ⟨y, h1, h2⟩ := loop_run (body := slices_DeleteFunc_Limpl_Rat_impl_Rat_b1 f)
   (fun s => ∃ i j : Nat, s.2.1 = i ∧ s.2.2 = j ∧ i < j ∧ j ≤ xs.length ∧ s.1.length = xs.length ∧ s.1.take i = (xs.take j).filter (fun x => !q x) ∧ ∀ k, j ≤ k → s.1[k]? = xs[k]?)
   (fun s => xs.length - s.2.2.toNat) (fun y => ∃ i : Nat, y.2 = i ∧ i ≤ xs.length ∧ y.1.length = xs.length ∧ y.1.take i = xs.filter (fun x => !q x))
   (fun ⟨l, i, j⟩ ⟨i', j', ei, ej, hij, hj, hll, ht, hk⟩ => by
    simp only at ei ej hll ht hk
    subst ei ej
    by_cases hlt2 : j' < xs.length
    ·have hget : l[j']? = some xs[j'] := by rw [hk j' (Nat.le_refl _)]; exact List.getElem?_eq_getElem hlt2
     have hi2 : idxO l (i' : Int) = some l[i'] := idxO_lt (by omega)
     simp only [slices_DeleteFunc_Limpl_Rat_impl_Rat_b1, hll, show ((j' : Int) < (xs.length : Int)) from by omega, decide_true, if_true, idxO_nat l j', hget, Option.bind_some, hf _ (List.getElem_mem hlt2), w64_nat (show j' < 9223372036854775807 by omega)]
     have htk : xs.take (j' + 1) = xs.take j' ++ [xs[j']] := by rw [List.take_add_one, List.getElem?_eq_getElem hlt2]; rfl
     left
     cases hq : q xs[j'] with
     | true =>
      refine ⟨(l, (i' : Int), ((j' + 1 : Nat) : Int)), by simp, ⟨i', j' + 1, rfl, rfl, by omega, by omega, hll, ?_, fun k hk2 => hk k (by omega)⟩, by simp only [Int.toNat_natCast]; omega⟩
      show l.take i' = _
      rw [htk, List.filter_append, ht]
      simp [hq]
     | false =>
      refine ⟨(l.set i' xs[j'], ((i' + 1 : Nat) : Int), ((j' + 1 : Nat) : Int)), ?_, ⟨i' + 1, j' + 1, rfl, rfl, by omega, by omega, by simpa using hll, ?_, fun k hk2 => ?_⟩, by simp only [Int.toNat_natCast]; omega⟩
      ·simp only [Bool.not_false, if_true, hi2, Option.bind_some, Int.toNat_natCast, w64_nat (show i' < 9223372036854775807 by omega)]
      ·show (l.set i' xs[j']).take (i' + 1) = _
       rw [htk, List.filter_append, ← ht, List.take_add_one]
       have : (l.set i' xs[j'])[i']? = some xs[j'] := by rw [List.getElem?_set]; simp; omega
       rw [this]
       have h9 : (l.set i' xs[j']).take i' = l.take i' := by
        apply List.ext_getElem?
        intro k
        rw [List.getElem?_take, List.getElem?_take]
        split
        ·rw [List.getElem?_set, if_neg (by omega)]
        ·rfl
       rw [h9]
       simp [hq]
      ·show (l.set i' xs[j'])[k]? = _
       rw [List.getElem?_set, if_neg (by omega)]
       exact hk k (by omega)
    ·right
     have hjj : j' = xs.length := by omega
     refine ⟨(l, (i' : Int)), ?_, i', rfl, by omega, hll, ?_⟩
     ·simp only [slices_DeleteFunc_Limpl_Rat_impl_Rat_b1, hll, show ¬ ((j' : Int) < (xs.length : Int)) from by omega, decide_false, Bool.false_eq_true, if_false]
     ·show l.take i' = _
      rw [ht, hjj, List.take_length])
   (xs, (i0 : Int), w64 ((i0 : Int) + 1)) ⟨i0, i0 + 1, rfl, by rw [w64_nat (by omega)], by omega, by omega, rfl, by
    show xs.take i0 = _
    rw [List.take_add_one, List.getElem?_eq_getElem hi, List.filter_append, hpre i0 (Nat.le_refl _)]
    simp [hp], fun _ _ => rfl⟩
  rw [h1, Option.bind_some]
  obtain ⟨i, e1, e2, e3, e4⟩ := h2
  unfold slices_DeleteFunc_Limpl_Rat_impl_Rat_k1
  rw [e1, guardO_bind_pos (by omega), guardO_bind_pos (by simp; omega), Int.toNat_natCast]
  congr 1
  rw [← e4, List.take_append_of_le_length (by simp; omega), List.take_take, Nat.min_self]
theorem ylb (xs : List Rt) (hl : xs.length ≤ 4611686018427387904) : slices_Reverse_Limpl_Rat_impl_Rat xs = some xs.reverse := by
 unfold slices_Reverse_Limpl_Rat_impl_Rat
 rw [rev_loop xs hl slices_Reverse_Limpl_Rat_impl_Rat_b1 fun x => rfl]
 rfl
def btw (cuts : List Rt) (a b : Rt) : List Rt := if less b a = true then (cuts.filter fun x => less b x && less x a).reverse else cuts.filter fun x => less a x && less x b
theorem btw_len (cuts : List Rt) (a b : Rt) : (btw cuts a b).length ≤ cuts.length := by
 unfold btw
 split
 ·rw [List.length_reverse]; exact List.length_filter_le ..
 ·exact List.length_filter_le ..
theorem btw_mem {cuts : List Rt} {a b x : Rt} (h : x ∈ btw cuts a b) : x ∈ cuts := by
 unfold btw at h
 split at h
 ·exact (List.mem_filter.1 (List.mem_reverse.1 h)).1
 ·exact (List.mem_filter.1 h).1
section
variable {cuts : List Rt} {a b : Rt}
theorem ywb (hc : ∀ x ∈ cuts, isRat x = true) (ha : isRat a = true) (hb : isRat b = true) (hl : cuts.length ≤ 1048576) : impl_cutsBetween cuts a b = some (btw cuts a b) := by
 have clone : slices_Clone_Limpl_Rat_impl_Rat cuts = some cuts := by
  unfold slices_Clone_Limpl_Rat_impl_Rat
  rw [guardO_bind_pos (by omega)]
 have ta := tame_of ha
 have tb := tame_of hb
 unfold impl_cutsBetween impl_lesser impl_greater
 rw [yla b a tb ta, yla a b ta tb]
 simp only [Option.bind_some]
 have del : ∀ lo hi : Rt, isRat lo = true → isRat hi = true → slices_DeleteFunc_Limpl_Rat_impl_Rat cuts (fun x0 => impl_cutsBetween_1 x0 lo hi) = some (cuts.filter fun x => less lo x && less x hi) := fun lo hi h1 h2 => by
  rw [yfe cuts _ (fun x => !(less lo x && less x hi)) (fun x hx => by
   have tx := tame_of (hc x hx)
   unfold impl_cutsBetween_1
   rw [yla lo x (tame_of h1) tx, Option.bind_some]
   cases less lo x
   ·rfl
   ·simp only [Bool.not_true, Bool.false_eq_true, if_false, yla x hi tx (tame_of h2), Option.bind_some, Bool.true_and]) hl]
  simp
 unfold btw
 cases h1 : less b a
 ·cases h2 : less a b
  ·simp only [Bool.false_eq_true, if_false, Option.bind_some, clone, del a a ha ha]
   congr 1
   have e1 : ∀ x, (less a x && less x a) = false := fun x => by
    cases h3 : less a x
    ·rfl
    ·rw [less_not h3]; rfl
   have e2 : ∀ x ∈ cuts, (less a x && less x b) = false := fun x hx => by
    have hab : a = b := cmp_same ha hb (by simp only [less, decide_eq_false_iff_not] at h1 h2; omega)
    subst hab
    exact e1 x
   rw [List.filter_eq_nil_iff.2 (fun x _ => by rw [e1]; simp), List.filter_eq_nil_iff.2 (fun x hx => by rw [e2 x hx]; simp)]
  ·simp only [Bool.false_eq_true, if_false, if_true, Option.bind_some, clone, del a b ha hb]
 ·have h2 : less a b = false := less_not h1
  simp only [h2, Bool.false_eq_true, if_false, if_true, Option.bind_some, clone, del b a hb ha]
  rw [ylb _ (by have := List.length_filter_le (fun x => less b x && less x a) cuts; omega)]
  rfl
theorem yjc (hc : ∀ x ∈ cuts, isRat x = true) (ha : isRat a = true) (hb : isRat b = true) (hl : cuts.length ≤ 1048576) : spec_lpBetween cuts a b = some (btw cuts a b) := by
 have ta := tame_of ha
 have tb := tame_of hb
 have hx := loop_idx (body := spec_lpBetween_b1 cuts a b) cuts.length (fun i => (btw (cuts.take i) a b, (i : Int))) (btw cuts a b) (fun i hi => by
  have hm := List.getElem_mem hi
  have tx := tame_of (hc _ hm)
  have hlen := btw_len (cuts.take i) a b
  have hlen' : (btw (cuts.take i) a b).length ≤ 1048576 := by rw [List.length_take] at hlen; omega
  have htk : cuts.take (i + 1) = cuts.take i ++ [cuts[i]] := by rw [List.take_add_one, List.getElem?_eq_getElem hi]; rfl
  have e1 : ∀ x y : Rt, isRat x = true → isRat y = true → ((spec_raCmp x cuts[i]).bind fun v12 => (if (decide (v12 < 0)) = true then (spec_raCmp cuts[i] y).bind fun v13 => some (decide (v13 < 0)) else some false)) = some (less x cuts[i] && less cuts[i] y) := fun x y h1 h2 => by
   rw [yba x _ (tame_of h1) tx, Option.bind_some, cmp_lt]
   cases less x cuts[i]
   ·rfl
   ·simp only [if_true, yba _ y tx (tame_of h2), Option.bind_some, cmp_lt, Bool.true_and]
  have e2 := e1 a b ha hb
  have e3 := e1 b a hb ha
  have k2 : ∀ l : List Rt, l.length ≤ 1048577 → spec_lpBetween_k2 a b (btw (cuts.take i) a b, (i : Int)) cuts[i] l = some (.inl (if (less b cuts[i] && less cuts[i] a) = true then [cuts[i]] ++ l else l, ((i + 1 : Nat) : Int))) := fun l hll => by
   unfold spec_lpBetween_k2
   rw [yba b _ tb tx] at e3 ⊢
   simp only [Option.bind_some] at e3 ⊢
   rw [e3, Option.bind_some]
   cases (less b cuts[i] && less cuts[i] a)
   ·simp only [Bool.false_eq_true, if_false, w64_nat (show i < 9223372036854775807 by omega)]
   ·simp only [if_true, w64_nat (show i < 9223372036854775807 by omega)]
    rw [guardO_bind_pos (by simp; omega)]
  simp only [spec_lpBetween_b1, show ((i : Int) < (cuts.length : Int)) from by omega, decide_true, if_true, idxO_lt hi, Option.bind_some]
  rw [yba a _ ta tx] at e2 ⊢
  simp only [Option.bind_some] at e2 ⊢
  rw [e2, Option.bind_some]
  have step : btw (cuts.take (i + 1)) a b = if (less b cuts[i] && less cuts[i] a) = true then [cuts[i]] ++ (if (less a cuts[i] && less cuts[i] b) = true then btw (cuts.take i) a b ++ [cuts[i]] else btw (cuts.take i) a b) else (if (less a cuts[i] && less cuts[i] b) = true then btw (cuts.take i) a b ++ [cuts[i]] else btw (cuts.take i) a b) := by
   have tr : ∀ {x y : Rt}, isRat x = true → isRat y = true → (less x cuts[i] && less cuts[i] y) = true → less x y = true := fun {x y} h1 h2 h3 => by
    rw [Bool.and_eq_true] at h3
    have hz := hc _ hm
    generalize cuts[i] = z at h3 hz
    have d1 : 0 < x.2 := by have := (isRat_iff.1 h1).1; omega
    have d2 : 0 < y.2 := by have := (isRat_iff.1 h2).1; omega
    have d3 : 0 < z.2 := by have := (isRat_iff.1 hz).1; omega
    rw [less_val d1 d3, less_val d3 d2] at h3
    rw [less_val d1 d2]
    grind
   unfold btw
   rw [htk]
   simp only [List.filter_append, List.filter_cons, List.filter_nil]
   cases hba : less b a
   ·have n1 : (less b cuts[i] && less cuts[i] a) = false := by
     cases h : (less b cuts[i] && less cuts[i] a) with
     | false => rfl
     | true => rw [tr hb ha h] at hba; cases hba
    rw [n1]
    simp only [Bool.false_eq_true, if_false]
    cases (less a cuts[i] && less cuts[i] b) <;> simp
   ·have n1 : (less a cuts[i] && less cuts[i] b) = false := by
     cases h : (less a cuts[i] && less cuts[i] b) with
     | false => rfl
     | true => have := tr ha hb h; rw [less_not hba] at this; cases this
    rw [n1]
    simp only [Bool.false_eq_true, if_false, if_true]
    cases (less b cuts[i] && less cuts[i] a) <;> simp
  cases hc1 : (less a cuts[i] && less cuts[i] b)
  ·rw [hc1] at step
   simp only [Bool.false_eq_true, if_false] at step ⊢
   rw [k2 _ (by omega), step]
  ·rw [hc1] at step
   simp only [if_true] at step ⊢
   rw [guardO_bind_pos (by simp; omega), k2 _ (by simp; omega), step]) (by
  simp only [spec_lpBetween_b1, Int.lt_irrefl, decide_false, Bool.false_eq_true, if_false, List.take_length])
 unfold spec_lpBetween
 have e0 : btw (cuts.take 0) a b = [] := by simp [btw]
 rw [e0] at hx
 have hx' : loopO (spec_lpBetween_b1 cuts a b) ([], 0) = some (btw cuts a b) := hx
 rw [hx']
 rfl
end
def wayN (cuts : List Rt) (e : Nat → Rt) : Nat → List Rt
 | 0 => [e 0]
 | k + 1 => wayN cuts e k ++ btw cuts (e k) (e (k + 1)) ++ [e (k + 1)]
theorem wayN_len {cuts : List Rt} {e : Nat → Rt} (hc : cuts.length ≤ 12) : ∀ k, k + 1 ≤ (wayN cuts e k).length ∧ (wayN cuts e k).length ≤ 13 * k + 1
 | 0 => by simp [wayN]
 | k + 1 => by
  have ih := wayN_len (e := e) hc k
  have := btw_len cuts (e k) (e (k + 1))
  simp only [wayN, List.length_append, List.length_singleton]
  omega
theorem wayN_mem {cuts : List Rt} {e : Nat → Rt} {P : Rt → Prop} (hc : ∀ x ∈ cuts, P x) : ∀ k, (∀ i, i ≤ k → P (e i)) → ∀ x ∈ wayN cuts e k, P x
 | 0, he, x, hx => by simp only [wayN, List.mem_singleton] at hx; subst hx; exact he 0 (Nat.le_refl _)
 | k + 1, he, x, hx => by
  simp only [wayN, List.mem_append, List.mem_singleton] at hx
  rcases hx with (hx | hx) | rfl
  ·exact wayN_mem hc k (fun i hi => he i (by omega)) x hx
  ·exact hc x (btw_mem hx)
  ·exact he (k + 1) (Nat.le_refl _)
section
variable {n : Nat} {p : Nat → Pt}
noncomputable def valsO (n : Nat) (p : Nat → Pt) (o : Option (List Rt)) (xs : List Rt) : Option (List Rt) := xs.foldl (fun o x => o.bind fun l => (atQ n p x).map fun y => l ++ [y]) o
theorem yra (o : Option (List Rt)) (xs ys : List Rt) : valsO n p o (xs ++ ys) = valsO n p (valsO n p o xs) ys := by simp [valsO]
theorem ykb (o : Option (List Rt)) (x : Rt) : valsO n p o [x] = o.bind fun l => (atQ n p x).map fun y => l ++ [y] := rfl
theorem yxb (xs : List Rt) : valsO n p none xs = none := by
 induction xs with
 | nil => rfl
 | cons x xs ih => exact ih
theorem ymc : ∀ (xs : List Rt) (l l' : List Rt), valsO n p (some l) xs = some l' → l'.length = l.length + xs.length
 | [], l, l', h => by simp [valsO] at h; simp [h]
 | x :: xs, l, l', h => by
  rw [show x :: xs = [x] ++ xs from rfl, yra, ykb] at h
  cases hx : atQ n p x with
  | none => rw [hx] at h; simp only [Option.map_none, Option.bind_some] at h; rw [yxb] at h; cases h
  | some y =>
   rw [hx] at h
   simp only [Option.map_some, Option.bind_some] at h
   have := ymc xs _ _ h
   rw [this]; simp; omega
theorem yge (h : Curve n p) (hy : ∀ i, i < n → coord (p i).2 = true) : ∀ (xs : List Rt) (l l' : List Rt), (∀ x ∈ xs, isUnit x = true) → (∀ x ∈ l, isUnit x = true) → valsO n p (some l) xs = some l' → ∀ x ∈ l', isUnit x = true
 | [], l, l', _, hl, e => by simp [valsO] at e; subst e; exact hl
 | x :: xs, l, l', hx, hl, e => by
  rw [show x :: xs = [x] ++ xs from rfl, yra, ykb] at e
  cases ha : atQ n p x with
  | none => rw [ha] at e; simp only [Option.map_none, Option.bind_some] at e; rw [yxb] at e; cases e
  | some y =>
   rw [ha] at e
   simp only [Option.map_some, Option.bind_some] at e
   refine yge h hy xs _ _ (fun z hz => hx z (by simp [hz])) (fun z hz => ?_) e
   rcases List.mem_append.1 hz with hz | hz
   ·exact hl z hz
   ·simp at hz; subst hz; exact atQ_unit h hy (hx x (by simp)) ha
def RelA (o : Option (List Rt)) (k : Nat) (s : Bool × List Rt) : Prop := s.2.length = k ∧ match o with
 | some l => s = (false, l)
 | none => s.1 = true
theorem yod {o : Option (List Rt)} {k : Nat} {s : Bool × List Rt} {x : Rt} {v : Rt × Bool} (h : RelA o k s) (hv : CR s.1 (atQ n p x) v) : RelA (valsO n p o [x]) (k + 1) (v.2, s.2 ++ [v.1]) := by
 obtain ⟨h1, h2⟩ := h
 refine ⟨by simp [h1], ?_⟩
 rw [ykb]
 cases o with
 | none =>
  simp only at h2
  simp only [Option.bind_none]
  rw [h2] at hv
  exact CR_bad hv
 | some l =>
  simp only at h2
  subst h2
  simp only [Option.bind_some]
  obtain ⟨_, hv⟩ := hv
  cases ha : atQ n p x with
  | none => rw [ha] at hv; simp only [Option.map_none]; exact hv
  | some y => rw [ha] at hv; simp only at hv; subst hv; rfl
theorem impl_it3 (h : Curve n p) (xs : List Rt) (hx : ∀ x ∈ xs, isUnit x = true) (hl : xs.length ≤ 1048576) {o : Option (List Rt)} {k : Nat} {s : Bool × List Rt} (hk : k ≤ 1048576) (hs : RelA o k s) :
  ∃ s', loopO (impl_iterates_b3 (tab n p) xs) (s.1, s.2, 0) = some s' ∧ RelA (valsO n p o xs) (k + xs.length) s' := by
 obtain ⟨y, h1, h2⟩ := loop_run (body := impl_iterates_b3 (tab n p) xs) (fun t => ∃ i : Nat, i ≤ xs.length ∧ t.2.2 = i ∧ RelA (valsO n p o (xs.take i)) (k + i) (t.1, t.2.1)) (fun t => xs.length - t.2.2.toNat)
  (fun y => RelA (valsO n p o xs) (k + xs.length) y) (fun ⟨b, l, j⟩ ⟨i, hi, ej, hr⟩ => by
   simp only at ej
   subst ej
   by_cases hlt : i < xs.length
   ·obtain ⟨v, e1, e2⟩ := impl_at h (hx _ (List.getElem_mem hlt)) b
    have hr2 := yod hr e2
    left
    have hlen := hr.1
    refine ⟨_, by
     simp only [impl_iterates_b3, show ((i : Int) < (xs.length : Int)) from by omega, decide_true, if_true, idxO_lt hlt, Option.bind_some, e1]
     rw [guardO_bind_pos (by simp only [List.length_singleton]; simp only at hlen; omega)], ⟨i + 1, hlt, by simp only [w64_nat (show i < 9223372036854775807 by omega)], ?_⟩, by simp only [w64_nat (show i < 9223372036854775807 by omega), Int.toNat_natCast]; omega⟩
    have htk : xs.take (i + 1) = xs.take i ++ [xs[i]] := by rw [List.take_add_one, List.getElem?_eq_getElem hlt]; rfl
    rw [htk, yra]
    exact hr2
   ·have : i = xs.length := by omega
    subst this
    right
    rw [List.take_length] at hr
    exact ⟨(b, l), by simp only [impl_iterates_b3, Int.lt_irrefl, decide_false, Bool.false_eq_true, if_false], hr⟩) (s.1, s.2, 0) ⟨0, by omega, rfl, by simpa [valsO] using hs⟩
 exact ⟨y, h1, h2⟩
noncomputable def nextO (n : Nat) (p : Nat → Pt) (cuts : List Rt) (m : Nat) (e : Nat → Rt) : Option (List Rt) := if (wayN cuts e (m - 1)).length ≤ 4097 then valsO n p (some []) (wayN cuts e (m - 1)) else none
theorem impl_it2 (h : Curve n p) {cuts : List Rt} (hcr : ∀ x ∈ cuts, isUnit x = true) (hcl : cuts.length ≤ 12) {m : Nat} {e : Nat → Rt} (hm : 1 ≤ m) (hm2 : m ≤ 4097) (he : ∀ i, i < m → isUnit (e i) = true) :
  ∃ v s', impl_calc_value false (tab n p) (e 0) = some v ∧ loopO (impl_iterates_b2 (tab n p) cuts (tab m e)) (v.2, [v.1], 1) = some s' ∧ RelA (valsO n p (some []) (wayN cuts e (m - 1))) (wayN cuts e (m - 1)).length s' := by
 have ur : ∀ {x : Rt}, isUnit x = true → isRat x = true := fun hx => by simp only [isUnit, Bool.and_eq_true] at hx; exact hx.1
 obtain ⟨v, e1, e2⟩ := impl_at h (he 0 (by omega)) false
 have hv : RelA (valsO n p (some []) (wayN cuts e 0)) 1 (v.2, [v.1]) := by
  have : RelA (some []) 0 (false, ([] : List Rt)) := ⟨rfl, rfl⟩
  exact yod this e2
 refine ⟨v, ?_⟩
 obtain ⟨y, h1, h2⟩ := loop_run (body := impl_iterates_b2 (tab n p) cuts (tab m e)) (fun t => ∃ i : Nat, 1 ≤ i ∧ i ≤ m ∧ t.2.2 = i ∧ RelA (valsO n p (some []) (wayN cuts e (i - 1))) (wayN cuts e (i - 1)).length (t.1, t.2.1)) (fun t => m - t.2.2.toNat)
  (fun y => RelA (valsO n p (some []) (wayN cuts e (m - 1))) (wayN cuts e (m - 1)).length y) (fun ⟨b, l, j⟩ ⟨i, hi1, hi, ej, hr⟩ => by
   simp only at ej
   subst ej
   by_cases hlt : i < m
   ·have u1 := he (i - 1) (by omega)
    have u2 := he i hlt
    have hw := wayN_len (e := e) hcl (i - 1)
    have hb := btw_len cuts (e (i - 1)) (e i)
    have ep : w64 ((i : Int) - 1) = ((i - 1 : Nat) : Int) := w64_pred (by omega) (by omega)
    have hcb := ywb (cuts := cuts) (a := e (i - 1)) (b := e i) (fun x hx => ur (hcr x hx)) (ur u1) (ur u2) (by omega)
    obtain ⟨s', e3, e4⟩ := impl_it3 h (btw cuts (e (i - 1)) (e i)) (fun x hx => hcr x (btw_mem hx)) (by omega) (by omega) hr
    obtain ⟨v2, e5, e6⟩ := impl_at h u2 s'.1
    have hr2 := yod e4 e6
    have hlen := e4.1
    left
    refine ⟨(v2.2, s'.2 ++ [v2.1], ((i + 1 : Nat) : Int)), ?_, ⟨i + 1, by omega, hlt, rfl, ?_⟩, by simp only [Int.toNat_natCast]; omega⟩
    ·simp only [impl_iterates_b2, tab_len, show ((i : Int) < (m : Int)) from by omega, decide_true, if_true, ep, idxO_tab (show i - 1 < m by omega), idxO_tab hlt, Option.bind_some, hcb]
     rw [e3, Option.bind_some]
     simp only [impl_iterates_k5, idxO_tab hlt, Option.bind_some, e5]
     rw [guardO_bind_pos (by simp only [List.length_singleton]; omega)]
     simp only [impl_iterates_k4, w64_nat (show i < 9223372036854775807 by omega)]
    ·have ew : wayN cuts e (i + 1 - 1) = wayN cuts e (i - 1) ++ btw cuts (e (i - 1)) (e i) ++ [e i] := by
      obtain ⟨q, rfl⟩ : ∃ q, i = q + 1 := ⟨i - 1, by omega⟩
      rfl
     rw [ew, yra, yra, List.length_append, List.length_append]
     exact hr2
   ·have : i = m := by omega
    subst this
    right
    exact ⟨(b, l), by simp only [impl_iterates_b2, tab_len, Int.lt_irrefl, decide_false, Bool.false_eq_true, if_false], hr⟩) (v.2, [v.1], 1) ⟨1, Nat.le_refl _, hm, rfl, hv⟩
 exact ⟨y, e1, h1, h2⟩
theorem yyb (h : Curve n p) {cuts : List Rt} (hcr : ∀ x ∈ cuts, isUnit x = true) (hcl : cuts.length ≤ 12) {m : Nat} {e : Nat → Rt} (hm : 1 ≤ m) (hm2 : m ≤ 4097) (he : ∀ i, i < m → isUnit (e i) = true) :
  spec_lpNext (tab n p) cuts (tab m e) = some (match nextO n p cuts m e with | some l => (l, true) | none => ([], false)) := by
 have ur : ∀ {x : Rt}, isUnit x = true → isRat x = true := fun hx => by simp only [isUnit, Bool.and_eq_true] at hx; exact hx.1
 have way : loopO (spec_lpNext_b2 cuts (tab m e)) ([e 0], 1) = some (wayN cuts e (m - 1)) := by
  have hx := loop_idx (body := spec_lpNext_b2 cuts (tab m e)) (m - 1) (fun i => (wayN cuts e i, ((i + 1 : Nat) : Int))) (wayN cuts e (m - 1)) (fun i hi => by
   have hw := wayN_len (e := e) hcl i
   have hb := btw_len cuts (e i) (e (i + 1))
   have ep : w64 (((i + 1 : Nat) : Int) - 1) = (i : Int) := by rw [w64_id (by omega) (by omega)]; omega
   have hcb := yjc (cuts := cuts) (a := e i) (b := e (i + 1)) (fun x hx => ur (hcr x hx)) (ur (he i (by omega))) (ur (he (i + 1) (by omega))) (by omega)
   simp only [spec_lpNext_b2, tab_len, show (((i + 1 : Nat) : Int) < (m : Int)) from by omega, decide_true, if_true, ep, idxO_tab (show i < m by omega), idxO_tab (show i + 1 < m by omega), Option.bind_some, hcb]
   rw [guardO_bind_pos (by omega), guardO_bind_pos (by rw [List.length_append, List.length_singleton]; omega)]
   rw [w64_nat (show i + 1 < 9223372036854775807 by omega)]
   rfl) (by
   simp only [spec_lpNext_b2, tab_len, show ¬ ((((m - 1 + 1 : Nat)) : Int) < (m : Int)) from by omega, decide_false, Bool.false_eq_true, if_false])
  exact hx
 unfold spec_lpNext
 rw [show (0 : Int) = ((0 : Nat) : Int) from rfl, idxO_tab (by omega), Option.bind_some]
 have way' : loopO (spec_lpNext_b2 cuts (tab m e)) ([e 0], 1) = some (wayN cuts e (m - 1)) := way
 rw [way', Option.bind_some]
 have hu := wayN_mem (e := e) (P := fun x => isUnit x = true) hcr (m - 1) fun i hi => he i (by omega)
 have hwl := wayN_len (e := e) hcl (m - 1)
 unfold nextO spec_lpNext_k1
 generalize wayN cuts e (m - 1) = W at hu hwl
 by_cases hlen : W.length ≤ 4097
 ·rw [if_pos hlen]
  have hn : ¬ ((W.length : Int) > 4097) := by omega
  simp only [hn, decide_false, Bool.false_eq_true, if_false]
  obtain ⟨y, h1, h2⟩ := loop_run (body := spec_lpNext_b1 (tab n p) W) (fun t => ∃ i : Nat, i ≤ W.length ∧ t.2 = i ∧ valsO n p (some []) (W.take i) = some t.1) (fun t => W.length - t.2.toNat)
   (fun y => y = (match valsO n p (some []) W with | some l => .inr l | none => .inl ([], false))) (fun ⟨l, j⟩ ⟨i, hi, ej, hr⟩ => by
    simp only at ej hr
    subst ej
    by_cases hlt : i < W.length
    ·have htk : W.take (i + 1) = W.take i ++ [W[i]] := by rw [List.take_add_one, List.getElem?_eq_getElem hlt]; rfl
     have hlv := ymc _ _ _ hr
     have hll : l.length = i := by rw [hlv, List.length_take]; simp; omega
     have hsp : W = W.take i ++ ([W[i]] ++ W.drop (i + 1)) := by
      rw [← List.append_assoc, ← htk, List.take_append_drop]
     simp only [spec_lpNext_b1, show ((i : Int) < (W.length : Int)) from by omega, decide_true, if_true, idxO_lt hlt, Option.bind_some, spec_at h (hu _ (List.getElem_mem hlt))]
     cases ha : atQ n p W[i] with
     | none =>
      right
      refine ⟨_, rfl, ?_⟩
      have : valsO n p (some []) W = none := by
       rw [hsp, yra, hr, yra, ykb, ha]
       exact yxb _
      rw [this]
     | some y =>
      left
      refine ⟨(l ++ [y], ((i + 1 : Nat) : Int)), ?_, ⟨i + 1, hlt, rfl, ?_⟩, by simp only [Int.toNat_natCast]; omega⟩
      ·simp only [unO, Bool.not_true, Bool.false_eq_true, if_false]
       rw [guardO_bind_pos (by simp only [List.length_singleton]; omega), w64_nat (show i < 9223372036854775807 by omega)]
      ·show valsO n p (some []) (W.take (i + 1)) = some (l ++ [y])
       rw [htk, yra, hr, ykb, ha]
       rfl
    ·have : i = W.length := by omega
     subst this
     right
     rw [List.take_length] at hr
     exact ⟨.inr l, by simp only [spec_lpNext_b1, Int.lt_irrefl, decide_false, Bool.false_eq_true, if_false], by rw [hr]⟩) ([], 0) ⟨0, by omega, rfl, rfl⟩
  have h1' : loopO (spec_lpNext_b1 (tab n p) W) ([], 0) = some y := h1
  rw [h1', h2]
  cases valsO n p (some []) W <;> rfl
 ·rw [if_neg hlen]
  have hn : ((W.length : Int) > 4097) := by omega
  simp only [hn, decide_true, if_true]
end
end Go.PV

/-
 Plain laws: laps, end values and variations of iterates.
 Conditions: none.
-/
set_option linter.all false
namespace Go.PV
section
variable {n : Nat} {p : Nat → Pt}
noncomputable def itO (n : Nat) (p : Nat → Pt) (cuts : List Rt) : Nat → Option (List Rt)
 | 0 => some [(0, 1), (1, 1)]
 | k + 1 => (itO n p cuts k).bind fun l => nextO n p cuts l.length (fun i => l.getD i default)
noncomputable def itL (n : Nat) (p : Nat → Pt) (cuts : List Rt) (k : Nat) : List Rt := (itO n p cuts k).getD []
theorem itO_none {cuts : List Rt} {k m : Nat} (h : itO n p cuts k = none) (hm : k ≤ m) : itO n p cuts m = none := by
  induction m with
  | zero => have : k = 0 := by omega
            subst this; exact h
  | succ m ih =>
    by_cases hk : k = m + 1
    · subst hk; exact h
    · simp [itO, ih (by omega)]
structure Ends (l : List Rt) : Prop where
 lo : 2 ≤ l.length
 hi : l.length ≤ 4097
 u : ∀ x ∈ l, isUnit x = true
theorem Ends.at {l : List Rt} (h : Ends l) {i : Nat} (hi : i < l.length) : isUnit (l.getD i default) = true := by
 refine h.u _ ?_
 simp [hi]
theorem it_ends (h : Curve n p) (hy : ∀ i, i < n → coord (p i).2 = true) {cuts : List Rt} (hcr : ∀ x ∈ cuts, isUnit x = true) (hcl : cuts.length ≤ 12) : ∀ {k : Nat} {l : List Rt}, itO n p cuts k = some l → Ends l
 | 0, l, e => by
  obtain rfl := Option.some.inj e
  exact ⟨by simp, by simp, by simp; exact ⟨by decide, by decide⟩⟩
 | k + 1, l, e => by
  obtain ⟨l0, e1, e2⟩ := Option.bind_eq_some_iff.1 e
  have ih := it_ends h hy hcr hcl e1
  unfold nextO at e2
  split at e2
  ·rename_i hlen
   have hl := ymc _ _ _ e2
   have hw := wayN_len (e := fun i => l0.getD i default) hcl (l0.length - 1)
   have hu := wayN_mem (e := fun i => l0.getD i default) (P := fun x => isUnit x = true) hcr (l0.length - 1) fun i hi => ih.at (by have := ih.lo; omega)
   have := ih.lo
   simp only [List.length_nil, Nat.zero_add] at hl
   exact ⟨by omega, by omega, yge h hy _ _ _ hu (by simp) e2⟩
  ·cases e2
theorem tab_self (l : List Rt) : l = tab l.length (fun i => l.getD i default) := tab_eta l
theorem itL_of {cuts : List Rt} {k : Nat} {l : List Rt} (h : itO n p cuts k = some l) : itL n p cuts k = l := by unfold itL; rw [h]; rfl
theorem yrc (h : Curve n p) (hy : ∀ i, i < n → coord (p i).2 = true) {cuts : List Rt} (hcr : ∀ x ∈ cuts, isUnit x = true) (hcl : cuts.length ≤ 12) (ht : impl_turns (tab n p) = some cuts) (N : Nat) (hN : N ≤ 12) :
  impl_iterates (tab n p) (N : Int) = some (match itO n p cuts N with | some _ => (tab (N + 1) (itL n p cuts), true) | none => ([], false)) := by
 obtain ⟨y, h1, h2⟩ := loop_run (body := impl_iterates_b1 (tab n p) (N : Int) cuts) (fun s => ∃ k : Nat, k ≤ N ∧ s = (false, tab (k + 1) (itL n p cuts), (k : Int)) ∧ itO n p cuts k = some (itL n p cuts k)) (fun s => N - s.2.2.toNat)
  (fun y => y = (match itO n p cuts N with | some _ => .inr (tab (N + 1) (itL n p cuts)) | none => .inl ([], false))) (fun s ⟨k, hk, e, hq⟩ => by
   subst e
   by_cases hlt : k < N
   ·have E := it_ends h hy hcr hcl hq
    have e1 : w64 (((k + 1 : Nat) : Int) - 1) = (k : Int) := by rw [w64_id (by omega) (by omega)]; omega
    obtain ⟨v, s', a1, a2, a3⟩ := impl_it2 h hcr hcl (m := (itL n p cuts k).length) (e := fun i => (itL n p cuts k).getD i default) (by have := E.lo; omega) E.hi (fun i hi => E.at hi)
    rw [← tab_self] at a2
    have i0 : idxO (itL n p cuts k) 0 = some ((itL n p cuts k).getD 0 default) := by
     have := idxO_nat (itL n p cuts k) 0
     have hp := E.lo
     rw [show ((0 : Nat) : Int) = 0 from rfl] at this
     rw [this]
     exact getD_lt (by omega)
    have hnext : itO n p cuts (k + 1) = nextO n p cuts (itL n p cuts k).length (fun i => (itL n p cuts k).getD i default) := by
     show (itO n p cuts k).bind _ = _
     rw [hq]; rfl
    simp only [impl_iterates_b1, show ((k : Int) < (N : Int)) from by omega, decide_true, if_true, tab_len, e1, idxO_tab (show k < k + 1 by omega), Option.bind_some, i0, a1]
    rw [a2, Option.bind_some]
    unfold impl_iterates_k3
    have hlen := a3.1
    have hwl := wayN_len (e := fun i => (itL n p cuts k).getD i default) hcl ((itL n p cuts k).length - 1)
    have hEl := E.lo
    have hEh := E.hi
    unfold nextO at hnext
    generalize hW : wayN cuts (fun i => (itL n p cuts k).getD i default) ((itL n p cuts k).length - 1) = W at a3 hnext hlen hwl
    have e3 : w64 ((s'.2.length : Int) - 1) = (W.length : Int) - 1 := by rw [hlen, w64_id (by omega) (by omega)]
    rw [e3]
    by_cases hc : W.length ≤ 4097
    ·rw [if_pos hc] at hnext
     have hn : ¬ ((W.length : Int) - 1 > 4096) := by omega
     simp only [hn, decide_false, Bool.or_false]
     cases hv : valsO n p (some []) W with
     | none =>
      rw [hv] at a3 hnext
      have a4 : s'.1 = true := a3.2
      right
      refine ⟨.inl ([], false), by simp [a4], ?_⟩
      rw [itO_none hnext (show k + 1 ≤ N by omega)]
     | some l =>
      rw [hv] at a3 hnext
      have a4 : s' = (false, l) := a3.2
      subst a4
      left
      refine ⟨(false, tab (k + 1 + 1) (itL n p cuts), ((k + 1 : Nat) : Int)), ?_, ⟨k + 1, hlt, rfl, by rw [itL_of hnext]; exact hnext⟩, by simp only [Int.toNat_natCast]; omega⟩
      simp only [Bool.false_eq_true, if_false]
      rw [guardO_bind_pos (by rw [tab_len]; simp; omega)]
      simp only [impl_iterates_k2, w64_nat (show k < 9223372036854775807 by omega)]
      have := tab_succ (k + 1) (itL n p cuts)
      rw [itL_of hnext] at this
      rw [this]
    ·rw [if_neg hc] at hnext
     have hn : ((W.length : Int) - 1 > 4096) := by omega
     right
     refine ⟨.inl ([], false), by simp [hn], ?_⟩
     rw [itO_none hnext (show k + 1 ≤ N by omega)]
   ·have : k = N := by omega
    subst this
    right
    exact ⟨.inr (tab (k + 1) (itL n p cuts)), by simp only [impl_iterates_b1, Int.lt_irrefl, decide_false, Bool.false_eq_true, if_false], by rw [hq]⟩) (false, [[(0, 1), (1, 1)]], 0) ⟨0, by omega, rfl, rfl⟩
 unfold impl_iterates
 rw [ht]
 have z1 : impl_zero = some (0, 1) := rfl
 have z2 : impl_oneRat = some (1, 1) := rfl
 rw [z1, z2]
 simp only [Option.bind_some]
 rw [h1, h2]
 cases itO n p cuts N <;> rfl
theorem ypd (h : Curve n p) (hy : ∀ i, i < n → coord (p i).2 = true) {cuts : List Rt} (hcr : ∀ x ∈ cuts, isUnit x = true) (hcl : cuts.length ≤ 12) (ht : spec_lpTurns (tab n p) = some cuts) (N : Nat) (hN : N ≤ 12) :
  spec_lpEnds (tab n p) (N : Int) = some (match itO n p cuts N with | some l => (l, true) | none => ([], false)) := by
 obtain ⟨y, h1, h2⟩ := loop_run (body := spec_lpEnds_b1 (tab n p) cuts) (fun s => ∃ k : Nat, k ≤ N ∧ s = ((N : Int) - k, itL n p cuts k) ∧ itO n p cuts k = some (itL n p cuts k)) (fun s => s.1.toNat)
  (fun y => y = (match itO n p cuts N with | some l => .inr l | none => .inl ([], false))) (fun s ⟨k, hk, e, hq⟩ => by
   subst e
   by_cases hlt : k < N
   ·have E := it_ends h hy hcr hcl hq
    have a := yyb h hcr hcl (m := (itL n p cuts k).length) (e := fun i => (itL n p cuts k).getD i default) (by have := E.lo; omega) E.hi (fun i hi => E.at hi)
    rw [← tab_self] at a
    have hnext : itO n p cuts (k + 1) = nextO n p cuts (itL n p cuts k).length (fun i => (itL n p cuts k).getD i default) := by
     show (itO n p cuts k).bind _ = _
     rw [hq]; rfl
    simp only [spec_lpEnds_b1, show ((N : Int) - (k : Int) > 0) from by omega, decide_true, if_true, a, Option.bind_some]
    rw [← hnext]
    cases hv : itO n p cuts (k + 1) with
    | none =>
     right
     exact ⟨_, rfl, by rw [itO_none hv (show k + 1 ≤ N by omega)]⟩
    | some l =>
     left
     refine ⟨((N : Int) - ((k + 1 : Nat) : Int), l), ?_, ⟨k + 1, hlt, by rw [itL_of hv], by rw [itL_of hv]; exact hv⟩, by simp only; omega⟩
     simp only [Bool.not_true, Bool.false_eq_true, if_false]
     rw [w64_id (by omega) (by omega)]
     congr 3
     omega
   ·have : k = N := by omega
    subst this
    right
    exact ⟨.inr (itL n p cuts k), by simp only [spec_lpEnds_b1, show ¬ ((k : Int) - (k : Int) > 0) from by omega, decide_false, Bool.false_eq_true, if_false], by rw [hq]⟩) ((N : Int), [(0, 1), (1, 1)]) ⟨0, by omega, by simp [itL, itO], rfl⟩
 unfold spec_lpEnds
 rw [ht]
 have z1 : spec_raInt 0 = some (0, 1) := rfl
 have z2 : spec_raInt 1 = some (1, 1) := rfl
 rw [z1, z2]
 simp only [Option.bind_some]
 rw [h1, h2]
 cases itO n p cuts N <;> rfl
theorem yaf (hm : isMapT n p) (h2 : 2 ≤ n) (hn : n ≤ 12) : ∃ cuts : List Rt, impl_turns (tab n p) = some cuts ∧ spec_lpTurns (tab n p) = some cuts ∧ (∀ x ∈ cuts, isUnit x = true) ∧ cuts.length ≤ 12 := by
 have hl := ylc (p := p) h2
 have hb := (lap_inv (wayOf p) (n - 1)).bd
 have hb' : ∀ t ∈ lapsT n p, t.1 < n := fun t ht => by have := hb t ht; omega
 have e1 := yec hm h2 hn
 have e2 := yqa hm h2 hn
 generalize lapsT n p = L at hl hb' e1 e2
 have hd : ((L.map encT).drop (Int.toNat 1)) = (L.drop 1).map encT := by simp [List.map_drop]
 have loop : loopO (impl_turns_b1 (tab n p) (L.map encT)) ([], 0) = some ((L.drop 1).map fun t => (p t.1).1) := by
  have hx := loop_idx (body := impl_turns_b1 (tab n p) (L.map encT)) (L.drop 1).length (fun i => (((L.drop 1).take i).map (fun t => (p t.1).1), (i : Int))) ((L.drop 1).map fun t => (p t.1).1) (fun i hi => by
   have hmem : (L.drop 1)[i] ∈ L := List.mem_of_mem_drop (List.getElem_mem hi)
   have hlt := hb' _ hmem
   have g1 : idxO ((L.drop 1).map encT) (i : Int) = some (encT (L.drop 1)[i]) := by rw [idxO_nat, List.getElem?_map, List.getElem?_eq_getElem hi]; rfl
   have g2 : idxO (encT (L.drop 1)[i]) 0 = some (((L.drop 1)[i].1 : Nat) : Int) := rfl
   simp only [impl_turns_b1, hd, List.length_map, show ((i : Int) < ((L.drop 1).length : Int)) from by omega, decide_true, if_true, g1, g2, Option.bind_some, idxO_tab hlt]
   rw [guardO_bind_pos (by rw [List.length_take]; simp; omega), w64_nat (show i < 9223372036854775807 by simp at hi; omega)]
   have htk : (L.drop 1).take (i + 1) = (L.drop 1).take i ++ [(L.drop 1)[i]] := by rw [List.take_add_one, List.getElem?_eq_getElem hi]; rfl
   rw [htk, List.map_append]
   rfl) (by
   simp only [impl_turns_b1, hd, List.length_map, Int.lt_irrefl, decide_false, Bool.false_eq_true, if_false, List.take_length])
  exact hx
 have gl : ((0 : Nat) ≤ 1 ∧ (1 : Int) ≤ ((L.map encT).length : Int)) := by rw [List.length_map]; omega
 refine ⟨(L.drop 1).map fun t => (p t.1).1, ?_, ?_, fun x hx => ?_, by simp; omega⟩
 ·unfold impl_turns
  rw [e1, Option.bind_some, guardO_bind_pos gl, loop]
  rfl
 ·unfold spec_lpTurns
  have loop' : loopO (spec_lpTurns_b1 (tab n p) (L.map encT)) ([], 0) = some ((L.drop 1).map fun t => (p t.1).1) := loop
  rw [e2, Option.bind_some, guardO_bind_pos gl, loop']
  rfl
 ·obtain ⟨t, h3, rfl⟩ := List.mem_map.1 hx
  have hlt := hb' t (List.mem_of_mem_drop h3)
  have hc := (hm.1 _ hlt).1
  simp only [coord, Bool.and_eq_true] at hc
  exact hc.1
end
theorem yma (f : List Pt) (m : Int) (hl : f.length ≤ 4611686018427387904) :
  (spec_lpAsked f m = some false ∧ impl_iterated f m = some ([], false)) ∨
  ∃ n p cuts N, f = tab n p ∧ 2 ≤ n ∧ n ≤ 12 ∧ isMapT n p ∧ m = ((N : Nat) : Int) ∧ N ≤ 12 ∧ Curve n p ∧ (∀ i, i < n → coord (p i).2 = true) ∧ (∀ x ∈ cuts, isUnit x = true) ∧ cuts.length ≤ 12 ∧ spec_lpTurns f = some cuts ∧ spec_lpAsked f m = some true ∧
   spec_lpEnds f m = some (match itO n p cuts N with | some l => (l, true) | none => ([], false)) ∧
   impl_iterated f m = some (match itO n p cuts N with | some _ => (tab (N + 1) (itL n p cuts), true) | none => ([], false)) := by
 obtain ⟨c, b, h1, h2, h3, h4⟩ := yed f hl
 unfold spec_lpAsked impl_iterated
 rw [h1, h3]
 cases c
 ·exact .inl ⟨rfl, rfl⟩
 ·obtain ⟨e1, n, p, rfl, h5, h6, hm, rfl⟩ := h4 rfl
  cases hb : strictB n p
  ·rw [hb] at e1
   simp only [Option.bind_some, if_true, e1, Bool.true_and, Bool.false_eq_true, if_false, Bool.not_false]
   exact .inl ⟨by first | rfl | trivial, by first | rfl | trivial⟩
  ·rw [hb] at e1
   simp only [Option.bind_some, if_true, e1, Bool.true_and, Bool.not_true, Bool.false_eq_true, if_false, yka, yna]
   cases hk : inB 0 12 m
   ·exact .inl ⟨rfl, rfl⟩
   ·right
    have hk' := inB_iff.1 hk
    obtain ⟨N, rfl⟩ := Int.eq_ofNat_of_zero_le hk'.1
    obtain ⟨cuts, t1, t2, t3, t4⟩ := yaf hm h5 h6
    have hC := Curve.of_map hm h5 h6
    have hy : ∀ i, i < n → coord (p i).2 = true := fun i hi => (hm.1 i hi).2
    refine ⟨n, p, cuts, N, rfl, h5, h6, hm, rfl, by omega, hC, hy, t3, t4, t2, by first | rfl | trivial, ypd hC hy t3 t4 t2 N (by omega), ?_⟩
    simp only [Bool.not_true, Bool.false_eq_true, if_false, yrc hC hy t3 t4 t1 N (by omega), Option.bind_some]
theorem yab (f : List Pt) (m : Int) (hl : f.length ≤ 4611686018427387904) : ∃ r, spec_LapNumber f m = some r ∧ impl_LapNumber f m = some r := by
 unfold spec_LapNumber impl_LapNumber
 rcases yma f m hl with ⟨h1, h2⟩ | ⟨n, p, cuts, N, rfl, _, _, _, rfl, h5, h6, h7, h8, h9, _, h1, h2, h3⟩
 ·rw [h1, h2]; exact ⟨_, rfl, rfl⟩
 ·rw [h1, h3]
  simp only [Option.bind_some, Bool.not_true, Bool.false_eq_true, if_false, h2]
  cases h : itO n p cuts N with
  | none => exact ⟨_, rfl, rfl⟩
  | some l =>
   simp only [Bool.not_true, Bool.false_eq_true, if_false, idxO_tab (show N < N + 1 by omega), Option.bind_some, itL_of h]
   exact ⟨_, rfl, rfl⟩
theorem yha (f : List Pt) (m : Int) (hl : f.length ≤ 4611686018427387904) : ∃ r, spec_VariationOfIterate f m = some r ∧ impl_VariationOfIterate f m = some r := by
 unfold spec_VariationOfIterate impl_VariationOfIterate
 rcases yma f m hl with ⟨h1, h2⟩ | ⟨n, p, cuts, N, rfl, _, _, _, rfl, h5, h6, h7, h8, h9, _, h1, h2, h3⟩
 ·rw [h1, h2]; exact ⟨_, rfl, rfl⟩
 ·rw [h1, h3]
  simp only [Option.bind_some, Bool.not_true, Bool.false_eq_true, if_false, h2]
  cases h : itO n p cuts N with
  | none => exact ⟨_, rfl, rfl⟩
  | some l =>
   have E := it_ends h6 h7 h8 h9 h
   have ur : ∀ i, i < l.length → isRat (l.getD i default) = true := fun i hi => by have := E.at hi; simp only [isUnit, Bool.and_eq_true] at this; exact this.1
   simp only [Bool.not_true, Bool.false_eq_true, if_false, idxO_tab (show N < N + 1 by omega), Option.bind_some, itL_of h]
   have a := yic l.length (fun i => l.getD i default) (by have := E.lo; omega) (by have := E.hi; omega) ur
   have b := yzd l.length (fun i => l.getD i default) (by have := E.lo; omega) (by have := E.hi; omega) ur
   rw [← tab_self] at a b
   rw [a, b]
   exact ⟨_, rfl, rfl⟩
theorem ybf (r : Nat → Rt) (n : Nat) (h1 : 1 ≤ n) (hn : n ≤ 1048576) (hr : ∀ i, i < n → isRat (r i) = true) : loopO (spec_HighestAndLowest_b1 (tab n r, true)) ((r 0).1, (r 0).2, (r 0).1, (r 0).2, 0) = some ((mxN r n).1, (mxN r n).2, (mnN r n).1, (mnN r n).2) := by
 have hx := loop_idx (body := spec_HighestAndLowest_b1 (tab n r, true)) n (fun i => ((mxN r i).1, (mxN r i).2, (mnN r i).1, (mnN r i).2, (i : Int))) ((mxN r n).1, (mxN r n).2, (mnN r n).1, (mnN r n).2) (fun i hi => by
  have b := mn_rat (hr 0 (by omega)) hr i (by omega)
  simp only [spec_HighestAndLowest_b1, tab_len, show ((i : Int) < (n : Int)) from by omega, decide_true, if_true, idxO_tab hi, Option.bind_some]
  rw [show ((mxN r i).1, (mxN r i).2) = mxN r i from rfl, yba _ _ (tame_of b.2) (tame_of (hr i hi)), Option.bind_some, cmp_lt]
  unfold spec_HighestAndLowest_k2
  simp only
  simp only [show ((mnN r i).1, (mnN r i).2) = mnN r i from rfl, yba _ _ (tame_of (hr i hi)) (tame_of b.1), Option.bind_some, cmp_lt, w64_nat (show i < 9223372036854775807 by omega), mxN_succ, mnN_succ]
  unfold maxStep minStep
  cases less (mxN r i) (r i) <;> cases less (r i) (mnN r i) <;> rfl) (by
  simp only [spec_HighestAndLowest_b1, tab_len, Int.lt_irrefl, decide_false, Bool.false_eq_true, if_false])
 exact hx
theorem yja (f : List Pt) (m : Int) (hl : f.length ≤ 4611686018427387904) : ∃ r, spec_HighestAndLowest f m = some r ∧ impl_HighestAndLowest f m = some r := by
 unfold spec_HighestAndLowest impl_HighestAndLowest
 rcases yma f m hl with ⟨h1, h2⟩ | ⟨n, p, cuts, N, rfl, _, _, _, rfl, h5, h6, h7, h8, h9, _, h1, h2, h3⟩
 ·rw [h1, h2]; exact ⟨_, rfl, rfl⟩
 ·rw [h1, h3]
  simp only [Option.bind_some, Bool.not_true, Bool.false_eq_true, if_false, h2]
  cases h : itO n p cuts N with
  | none => exact ⟨_, rfl, rfl⟩
  | some l =>
   have E := it_ends h6 h7 h8 h9 h
   have ur : ∀ i, i < l.length → isRat (l.getD i default) = true := fun i hi => by have := E.at hi; simp only [isUnit, Bool.and_eq_true] at this; exact this.1
   simp only [Bool.not_true, Bool.false_eq_true, if_false, idxO_tab (show N < N + 1 by omega), Option.bind_some, itL_of h]
   have hlo := E.lo
   have hhi := E.hi
   rw [tab_self l]
   rw [yce (by omega) (by omega) ur, ybe (by omega) (by omega) ur]
   have i0 : idxO (tab l.length fun i => l.getD i default) 0 = some (l.getD 0 default) := idxO_tab (n := l.length) (f := fun i => l.getD i default) (i := 0) (by omega)
   rw [i0]
   simp only [Option.bind_some]
   rw [ybf (fun i => l.getD i default) l.length (by omega) (by omega) ur]
   exact ⟨_, rfl, rfl⟩
theorem yqd (f : List Pt) (m : Int) (hl : f.length ≤ 4611686018427387904) : ∃ r, r.1.length ≤ 1048576 ∧ spec_LapGrowth f m = some r ∧ impl_LapGrowth f m = some r := by
 unfold spec_LapGrowth impl_LapGrowth
 rcases yma f m hl with ⟨h1, h2⟩ | ⟨n, p, cuts, N, rfl, _, _, _, rfl, h5, h6, h7, h8, h9, ht, h1, _, h3⟩
 ·rw [h1, h2]
  refine ⟨([], false), by simp, rfl, ?_⟩
  rw [Option.bind_some, loopO_eq]
  simp [impl_LapGrowth_b1, impl_LapGrowth_k1]
 ·rw [h1, h3]
  have z1 : spec_raInt 0 = some (0, 1) := rfl
  have z2 : spec_raInt 1 = some (1, 1) := rfl
  simp only [Option.bind_some, Bool.not_true, Bool.false_eq_true, if_false, ht, z1, z2]
  let g : Nat → Int := fun k => w64 (((itL n p cuts k).length : Int) - 1)
  obtain ⟨y, k1, k2⟩ := loop_run (body := spec_LapGrowth_b1 (tab n p) (N : Int) cuts) (fun s => ∃ k : Nat, k ≤ N ∧ s = (itL n p cuts k, tab (k + 1) g, (k : Int)) ∧ itO n p cuts k = some (itL n p cuts k)) (fun s => N - s.2.2.toNat)
   (fun y => y = (match itO n p cuts N with | some l => .inr (tab (N + 1) g) | none => .inl ([], false))) (fun s ⟨k, hk, e, hq⟩ => by
    subst e
    by_cases hlt : k < N
    ·have E := it_ends h6 h7 h8 h9 hq
     have a := yyb h6 h8 h9 (m := (itL n p cuts k).length) (e := fun i => (itL n p cuts k).getD i default) (by have := E.lo; omega) E.hi (fun i hi => E.at hi)
     rw [← tab_self] at a
     have hnext : itO n p cuts (k + 1) = nextO n p cuts (itL n p cuts k).length (fun i => (itL n p cuts k).getD i default) := by
      show (itO n p cuts k).bind _ = _
      rw [hq]; rfl
     simp only [spec_LapGrowth_b1, show ((k : Int) < (N : Int)) from by omega, decide_true, if_true, a, Option.bind_some]
     rw [← hnext]
     cases hv : itO n p cuts (k + 1) with
     | none =>
      right
      exact ⟨_, rfl, by rw [itO_none hv (show k + 1 ≤ N by omega)]⟩
     | some l =>
      left
      refine ⟨(l, tab (k + 1 + 1) g, ((k + 1 : Nat) : Int)), ?_, ⟨k + 1, hlt, by rw [itL_of hv], by rw [itL_of hv]; exact hv⟩, by simp only [Int.toNat_natCast]; omega⟩
      simp only [Bool.not_true, Bool.false_eq_true, if_false]
      rw [guardO_bind_pos (by rw [tab_len]; simp; omega), w64_nat (show k < 9223372036854775807 by omega)]
      have := tab_succ (k + 1) g
      have hg : g (k + 1) = w64 ((l.length : Int) - 1) := by show w64 (((itL n p cuts (k + 1)).length : Int) - 1) = _; rw [itL_of hv]
      rw [hg] at this
      rw [this]
    ·have : k = N := by omega
     subst this
     right
     exact ⟨.inr (tab (k + 1) g), by simp only [spec_LapGrowth_b1, Int.lt_irrefl, decide_false, Bool.false_eq_true, if_false], by rw [hq]⟩) ([(0, 1), (1, 1)], [1], 0) ⟨0, by omega, by
      have : itL n p cuts 0 = [(0, 1), (1, 1)] := rfl
      simp only [tab, List.range_succ, List.range_zero, List.nil_append, List.map_cons, List.map_nil, g, this]
      rfl, rfl⟩
  rw [k1, k2]
  cases h : itO n p cuts N with
  | none =>
   refine ⟨([], false), by simp, rfl, ?_⟩
   rw [loopO_eq]
   simp [impl_LapGrowth_b1, impl_LapGrowth_k1]
  | some l =>
   refine ⟨(tab (N + 1) g, true), by simp only [tab_len]; omega, rfl, ?_⟩
   have hx := loop_idx (body := impl_LapGrowth_b1 (tab (N + 1) (itL n p cuts), true)) (N + 1) (fun i => (tab i g, (i : Int))) (tab (N + 1) g) (fun i hi => by
    simp only [impl_LapGrowth_b1, tab_len, show ((i : Int) < ((N + 1 : Nat) : Int)) from by omega, decide_true, if_true, idxO_tab hi, Option.bind_some]
    rw [guardO_bind_pos (by simp; omega), w64_nat (show i < 9223372036854775807 by omega)]
    have := tab_succ i g
    rw [← this]) (by
    simp only [impl_LapGrowth_b1, tab_len, Int.lt_irrefl, decide_false, Bool.false_eq_true, if_false])
   have hx' : loopO (impl_LapGrowth_b1 (tab (N + 1) (itL n p cuts), true)) ([], 0) = some (tab (N + 1) g) := hx
   simp only
   rw [hx']
   rfl
end Go.PV

/-
 Plain laws: end values of iterates.
 Conditions: none.
-/
set_option linter.all false
namespace Go.PV
theorem yrd (f : List Pt) (m : Int) (hl : f.length ≤ 4611686018427387904) : ∃ r ok, r.length ≤ 1048576 ∧ spec_EndValues f m = some (r, ok) ∧ impl_EndValues f m = some (r, ok) := by
 unfold spec_EndValues impl_EndValues
 rcases yma f m hl with ⟨h1, h2⟩ | ⟨n, p, cuts, N, rfl, _, _, _, rfl, h5, h6, h7, h8, h9, _, h1, h2, h3⟩
 ·rw [h1, h2]; exact ⟨[], false, by simp, rfl, rfl⟩
 ·rw [h1, h3]
  simp only [Option.bind_some, Bool.not_true, Bool.false_eq_true, if_false, h2]
  cases h : itO n p cuts N with
  | none => exact ⟨[], false, by simp, rfl, rfl⟩
  | some l =>
   have E := it_ends h6 h7 h8 h9 h
   have := E.hi
   simp only [Bool.not_true, Bool.false_eq_true, if_false, idxO_tab (show N < N + 1 by omega), Option.bind_some, itL_of h]
   exact ⟨l, true, by omega, rfl, rfl⟩
end Go.PV

/-
 Plain laws: the end values of iterates go up and down by turns.
 Conditions: none.
-/
set_option linter.all false
namespace Go.PV
def tnL (σ : Nat → Int) (i : Nat) : List Nat := ((List.range i).map (· + 1)).filter fun m => σ (m - 1) != σ m
theorem tnL_succ (σ : Nat → Int) (i : Nat) : tnL σ (i + 1) = tnL σ i ++ if (σ i != σ (i + 1)) = true then [i + 1] else [] := by
 unfold tnL
 rw [List.range_succ, List.map_append, List.filter_append]
 simp only [List.map_cons, List.map_nil, List.filter_cons, List.filter_nil, Nat.add_sub_cancel]
theorem tnL_mem {σ : Nat → Int} {i m : Nat} : m ∈ tnL σ i ↔ 1 ≤ m ∧ m ≤ i ∧ σ (m - 1) ≠ σ m := by
 unfold tnL
 rw [List.mem_filter, List.mem_map]
 constructor
 ·rintro ⟨⟨k, hk, rfl⟩, h⟩
  have := List.mem_range.1 hk
  exact ⟨by omega, by omega, by simpa using h⟩
 ·rintro ⟨h1, h2, h3⟩
  exact ⟨⟨m - 1, List.mem_range.2 (by omega), by omega⟩, by simpa using h3⟩
theorem tnL_up (σ : Nat → Int) (i : Nat) : (tnL σ i).Pairwise (· < ·) := by
 unfold tnL
 refine List.Pairwise.filter _ ?_
 rw [List.pairwise_map]
 exact List.pairwise_lt_range.imp fun h => by omega
theorem yfd (σ : Nat → Int) : ∀ i, (lapsN σ (i + 1)).map (fun t => t.1) = 0 :: tnL σ i ∧ ∃ L t, lapsN σ (i + 1) = L ++ [t] ∧ t.2.2 = σ i
 | 0 => ⟨rfl, [], (0, 1, σ 0), rfl, rfl⟩
 | i + 1 => by
  obtain ⟨h1, L, t, h2, h3⟩ := yfd σ i
  have e : lapsN σ (i + 1 + 1) = if t.2.2 = σ (i + 1) then L ++ [(t.1, i + 1 + 1, σ (i + 1))] else L ++ [t] ++ [(i + 1, i + 1 + 1, σ (i + 1))] := by
   show lapStep (lapsN σ (i + 1)) (i + 1) (σ (i + 1)) = _
   rw [h2, yjb]
  rw [h2, List.map_append] at h1
  rw [tnL_succ, e, h3]
  by_cases hs : σ i = σ (i + 1)
  ·rw [if_pos hs, if_neg (by simpa using hs)]
   refine ⟨?_, L, _, rfl, rfl⟩
   rw [List.map_append, List.append_nil, ← h1]; rfl
  ·rw [if_neg hs, if_pos (by simpa using hs)]
   refine ⟨?_, L ++ [t], _, rfl, rfl⟩
   rw [List.map_append, List.map_append, h1]; rfl
def cutsT (n : Nat) (p : Nat → Pt) : List Rt := (tnL (wayOf p) (n - 2)).map fun m => (p m).1
section
variable {n : Nat} {p : Nat → Pt}
theorem cuts_val (hm : isMapT n p) (h2 : 2 ≤ n) (hn : n ≤ 12) {cuts : List Rt} (ht : spec_lpTurns (tab n p) = some cuts) : cuts = cutsT n p ∧ cuts.length + 1 = (lapsT n p).length := by
 have hl := ylc (p := p) h2
 have hb := (lap_inv (wayOf p) (n - 1)).bd
 have hb' : ∀ t ∈ lapsT n p, t.1 < n := fun t ht => by have := hb t ht; omega
 have hst : (lapsT n p).map (fun t => t.1) = 0 :: tnL (wayOf p) (n - 2) := by
  have := (yfd (wayOf p) (n - 2)).1
  rw [show n - 2 + 1 = n - 1 by omega] at this
  exact this
 have e2 := yqa hm h2 hn
 generalize lapsT n p = L at hl hb' e2 hst
 have hd : ((L.map encT).drop (Int.toNat 1)) = (L.drop 1).map encT := by simp [List.map_drop]
 have loop : loopO (spec_lpTurns_b1 (tab n p) (L.map encT)) ([], 0) = some ((L.drop 1).map fun t => (p t.1).1) := by
  have hx := loop_idx (body := spec_lpTurns_b1 (tab n p) (L.map encT)) (L.drop 1).length (fun i => (((L.drop 1).take i).map (fun t => (p t.1).1), (i : Int))) ((L.drop 1).map fun t => (p t.1).1) (fun i hi => by
   have hmem : (L.drop 1)[i] ∈ L := List.mem_of_mem_drop (List.getElem_mem hi)
   have hlt := hb' _ hmem
   have g1 : idxO ((L.drop 1).map encT) (i : Int) = some (encT (L.drop 1)[i]) := by rw [idxO_nat, List.getElem?_map, List.getElem?_eq_getElem hi]; rfl
   have g2 : idxO (encT (L.drop 1)[i]) 0 = some (((L.drop 1)[i].1 : Nat) : Int) := rfl
   simp only [spec_lpTurns_b1, hd, List.length_map, show ((i : Int) < ((L.drop 1).length : Int)) from by omega, decide_true, if_true, g1, g2, Option.bind_some, idxO_tab hlt]
   rw [guardO_bind_pos (by rw [List.length_take]; simp; omega), w64_nat (show i < 9223372036854775807 by simp at hi; omega)]
   have htk : (L.drop 1).take (i + 1) = (L.drop 1).take i ++ [(L.drop 1)[i]] := by rw [List.take_add_one, List.getElem?_eq_getElem hi]; rfl
   rw [htk, List.map_append]
   rfl) (by
   simp only [spec_lpTurns_b1, hd, List.length_map, Int.lt_irrefl, decide_false, Bool.false_eq_true, if_false, List.take_length])
  exact hx
 have gl : ((0 : Nat) ≤ 1 ∧ (1 : Int) ≤ ((L.map encT).length : Int)) := by rw [List.length_map]; omega
 unfold spec_lpTurns at ht
 rw [e2, Option.bind_some, guardO_bind_pos gl, loop] at ht
 have e : cuts = (L.drop 1).map fun t => (p t.1).1 := (Option.some.inj ht).symm
 refine ⟨?_, by rw [e, List.length_map, List.length_drop]; omega⟩
 rw [e]
 unfold cutsT
 have : (L.drop 1).map (fun t => t.1) = tnL (wayOf p) (n - 2) := by rw [List.map_drop, hst]; rfl
 rw [← this, List.map_map]
 rfl
def dy (p : Nat → Pt) (m : Nat) : Rat := val (p (m + 1)).2 - val (p m).2
def Ways (n : Nat) (p : Nat → Pt) : Prop := ∀ m, m + 1 < n → (wayOf p m = 1 ∧ 0 < dy p m) ∨ (wayOf p m = -1 ∧ dy p m < 0)
theorem ways_of (h : Curve n p) (hs : strictB n p = true) : Ways n p := by
 intro m hm
 obtain ⟨u, v, hp⟩ := h.piece hm
 have v4 := subQ_val (h.yr hm) (h.yr (show m < n by omega)) hp.up
 have v5 := subQ_val (h.xr hm) (h.xr (show m < n by omega)) hp.far
 have v6 := divQ_val hp.ru hp.rv hp.vp hp.div
 have hx := h.xlt (show m < m + 1 by omega) hm
 have hne : (slopeQ (p m) (p (m + 1))).1 ≠ 0 := by
  unfold strictB slopesT at hs
  rw [List.all_eq_true] at hs
  have := hs (slopeQ (p m) (p (m + 1))) (by
   unfold tab
   exact List.mem_map.2 ⟨m, List.mem_range.2 (by omega), rfl⟩)
  simpa using this
 have hp2 := rt_pos hp.rs
 have e := val_mul hp2
 have c2 := cast_pos hp2
 have d : 0 < val v := by rw [v5]; grind
 have hy : dy p m = val u := by rw [v4]; rfl
 rw [hy, ← v6]
 unfold wayOf sg
 by_cases hpos : 0 < (slopeQ (p m) (p (m + 1))).1
 ·left
  rw [if_pos hpos]
  refine ⟨rfl, ?_⟩
  have c1 : (0 : Rat) < ((slopeQ (p m) (p (m + 1))).1 : Rat) := by exact_mod_cast hpos
  rw [← e] at c1
  have : 0 < val (slopeQ (p m) (p (m + 1))) := by
   refine Classical.byContradiction fun hno => ?_
   have := Rat.mul_le_mul_of_nonneg_right (show val (slopeQ (p m) (p (m + 1))) ≤ 0 by grind) (show (0 : Rat) ≤ ((slopeQ (p m) (p (m + 1))).2 : Rat) by grind)
   grind
  exact Rat.mul_pos this d
 ·right
  rw [if_neg hpos, if_pos (by omega)]
  refine ⟨rfl, ?_⟩
  have c1 : ((slopeQ (p m) (p (m + 1))).1 : Rat) < (0 : Rat) := by exact_mod_cast (show (slopeQ (p m) (p (m + 1))).1 < 0 by omega)
  rw [← e] at c1
  have : val (slopeQ (p m) (p (m + 1))) < 0 := by
   refine Classical.byContradiction fun hno => ?_
   have := Rat.mul_nonneg (show 0 ≤ val (slopeQ (p m) (p (m + 1))) by grind) (show (0 : Rat) ≤ ((slopeQ (p m) (p (m + 1))).2 : Rat) by grind)
   grind
  have := Rat.mul_lt_mul_of_pos_right this d
  grind
theorem on_move (h : Curve n p) {m m' : Nat} (hm : m + 1 < n) (hm' : m' + 1 < n) {x y : Rt} (ho : OnP p m' x y) (lo : val (p m).1 ≤ val x) (hi : val x ≤ val (p (m + 1)).1) : OnP p m x y := by
 have d := h.xlt (show m < m + 1 by omega) hm
 have d' := h.xlt (show m' < m' + 1 by omega) hm'
 obtain ⟨l, u, e⟩ := ho
 rcases Nat.lt_trichotomy m' m with hlt | heq | hgt
 ·have hme : m = m' + 1 := by
   refine Classical.byContradiction fun hne => ?_
   have := h.xlt (show m' + 1 < m by omega) (by omega)
   grind
  subst hme
  have ex : val x = val (p (m' + 1)).1 := by grind
  refine ⟨lo, hi, ?_⟩
  rw [ex] at e ⊢
  have : val y = val (p (m' + 1)).2 := by
   have : (val y - val (p (m' + 1)).2) * (val (p (m' + 1)).1 - val (p m').1) = 0 := by grind
   rcases Rat.mul_eq_zero.1 this with h1 | h1 <;> grind
  rw [this]; grind
 ·subst heq; exact ⟨l, u, e⟩
 ·have hme : m' = m + 1 := by
   refine Classical.byContradiction fun hne => ?_
   have := h.xlt (show m + 1 < m' by omega) (by omega)
   grind
  subst hme
  have ex : val x = val (p (m + 1)).1 := by grind
  refine ⟨lo, hi, ?_⟩
  rw [ex] at e ⊢
  have : val y = val (p (m + 1)).2 := by
   have : (val y - val (p (m + 1)).2) * (val (p (m + 1 + 1)).1 - val (p (m + 1)).1) = 0 := by grind
   rcases Rat.mul_eq_zero.1 this with h1 | h1 <;> grind
  rw [this]
theorem piece_up (h : Curve n p) {m : Nat} (hm : m + 1 < n) {a b u v : Rt} (ha : OnP p m a u) (hb : OnP p m b v) {σ : Rat} (hs : 0 < σ * dy p m) : (val a < val b → 0 < σ * (val v - val u)) ∧ (val a ≤ val b → 0 ≤ σ * (val v - val u)) := by
 have d := h.xlt (show m < m + 1 by omega) hm
 have e1 := ha.eq
 have e2 := hb.eq
 have key : σ * (val v - val u) * (val (p (m + 1)).1 - val (p m).1) = σ * dy p m * (val b - val a) := by unfold dy; grind
 constructor
 ·intro hab
  refine Classical.byContradiction fun hno => ?_
  have h1 := Rat.mul_pos hs (show 0 < val b - val a by grind)
  have h2 := Rat.mul_le_mul_of_nonneg_right (show σ * (val v - val u) ≤ 0 by grind) (show 0 ≤ val (p (m + 1)).1 - val (p m).1 by grind)
  grind
 ·intro hab
  refine Classical.byContradiction fun hno => ?_
  have h1 := Rat.mul_nonneg (show 0 ≤ σ * dy p m by grind) (show 0 ≤ val b - val a by grind)
  have h2 := Rat.mul_lt_mul_of_pos_right (show σ * (val v - val u) < 0 by grind) (show 0 < val (p (m + 1)).1 - val (p m).1 by grind)
  grind
theorem corner (h : Curve n p) {m : Nat} (hm : m + 1 < n) : OnP p m (p m).1 (p m).2 ∧ OnP p m (p (m + 1)).1 (p (m + 1)).2 := by
 have d := h.xlt (show m < m + 1 by omega) hm
 exact ⟨⟨Rat.le_refl, by grind, by grind⟩, ⟨by grind, Rat.le_refl, by grind⟩⟩
theorem climb (h : Curve n p) {σ : Rat} {i : Nat} {a u : Rt} (ha : OnP p i a u) : ∀ (k : Nat) {b v : Rt}, i + k + 1 < n → OnP p (i + k) b v → val a < val b → (∀ m, i ≤ m → m ≤ i + k → 0 < σ * dy p m) → 0 < σ * (val v - val u)
 | 0, b, v, hn, hb, hab, hs => (piece_up h hn ha hb (hs i (Nat.le_refl _) (Nat.le_refl _))).1 hab
 | k + 1, b, v, hn, hb, hab, hs => by
  have hn1 : i + k + 1 < n := by omega
  have c1 := (corner h hn1).2
  have c2 := (corner h hn).1
  have hsj := hs (i + (k + 1)) (by omega) (Nat.le_refl _)
  by_cases hlt : val a < val (p (i + k + 1)).1
  ·have h1 := climb h ha k hn1 c1 hlt (fun m h1 h2 => hs m h1 (by omega))
   have h2 := (piece_up h hn c2 hb hsj).2 hb.lo
   rw [show i + (k + 1) = i + k + 1 by omega] at h2
   grind
  ·have hk : val a ≤ val (p (i + 1)).1 := ha.hi
   have hx : val (p (i + 1)).1 ≤ val (p (i + k + 1)).1 := by
    by_cases h0 : k = 0
    ·subst h0; exact Rat.le_refl
    ·have := h.xlt (show i + 1 < i + k + 1 by omega) (by omega); grind
   have hx2 := h.xlt (show i + (k + 1) < i + (k + 1) + 1 by omega) hn
   rw [show i + (k + 1) = i + k + 1 by omega] at hx2 hb hsj
   have ho := on_move h (m := i + k + 1) (by omega) (by omega) ha (by grind) (by grind)
   exact (piece_up h (by omega) ho hb hsj).1 hab
theorem unit_rat {x : Rt} (h : isUnit x = true) : isRat x = true := by simp only [isUnit, Bool.and_eq_true] at h; exact h.1
theorem left_of (h : Curve n p) {b : Rt} (hb : isUnit b = true) (h0 : 0 < val b) : ∃ j, j + 1 < n ∧ val (p j).1 < val b ∧ val b ≤ val (p (j + 1)).1 := by
 obtain ⟨j, hj⟩ := findJ h hb
 have hr := unit_rat hb
 have f0 : val (p 0).1 = 0 := by rw [h.fst]; show ((0 : Int) : Rat) / ((1 : Int) : Rat) = 0; grind
 have hi := (yca (rt_pos (h.xr hj.lt)) (rt_pos hr)).1 hj.at'
 cases j with
 | zero => rw [f0] at hi; grind
 | succ j =>
  have hlt := hj.lt
  exact ⟨j, hlt, (less_val (rt_pos (h.xr (by omega))) (rt_pos hr)).1 (hj.bef j (by omega)), hi⟩
theorem right_of (h : Curve n p) {a : Rt} (ha : isUnit a = true) (h1 : val a < 1) : ∃ i, i + 1 < n ∧ val (p i).1 ≤ val a ∧ val a < val (p (i + 1)).1 := by
 obtain ⟨j, hj⟩ := findJ h ha
 have hr := unit_rat ha
 have hlt := hj.lt
 have hn := h.lo
 have f0 : val (p 0).1 = 0 := by rw [h.fst]; show ((0 : Int) : Rat) / ((1 : Int) : Rat) = 0; grind
 have f1 : val (p (n - 1)).1 = 1 := by rw [h.lst]; show ((1 : Int) : Rat) / ((1 : Int) : Rat) = 1; grind
 have hu := (unit_val hr).1 ha
 have hi := (yca (rt_pos (h.xr hj.lt)) (rt_pos hr)).1 hj.at'
 by_cases he : val a = val (p j).1
 ·have hjn : j + 1 < n := by
   refine Classical.byContradiction fun hno => ?_
   have : j = n - 1 := by omega
   rw [this, f1] at he; grind
  exact ⟨j, hjn, by grind, by have := h.xlt (show j < j + 1 by omega) hjn; grind⟩
 ·cases j with
  | zero => rw [f0] at hi he; grind
  | succ j => exact ⟨j, hlt, by have := (less_val (rt_pos (h.xr (by omega))) (rt_pos hr)).1 (hj.bef j (by omega)); grind, by grind⟩
def NoCut (cuts : List Rt) (a b : Rt) : Prop := ∀ c ∈ cuts, ¬ (val a < val c ∧ val c < val b)
theorem way_pos (hw : Ways n p) {m : Nat} (hm : m + 1 < n) : 0 < ((wayOf p m : Int) : Rat) * dy p m := by
 rcases hw m hm with ⟨e, d⟩ | ⟨e, d⟩
 ·rw [e]; grind
 ·rw [e]; grind
theorem one_way (h : Curve n p) (hw : Ways n p) {a b u v : Rt} {ma mb i j : Nat} (ha : isUnit a = true) (hb : isUnit b = true) (hma : ma + 1 < n) (hmb : mb + 1 < n) (oa : OnP p ma a u) (ob : OnP p mb b v) (hab : val a < val b) (hno : NoCut (cutsT n p) a b)
  (hi : i + 1 < n) (i1 : val (p i).1 ≤ val a) (i2 : val a < val (p (i + 1)).1) (hj : j + 1 < n) (j1 : val (p j).1 < val b) (j2 : val b ≤ val (p (j + 1)).1) : 0 < ((wayOf p i : Int) : Rat) * (val v - val u) ∧ 0 < ((wayOf p j : Int) : Rat) * (val v - val u) := by
 have hij : i ≤ j := by
  refine Classical.byContradiction fun hn => ?_
  by_cases he : j + 1 = i
  ·rw [he] at j2; grind
  ·have := h.xlt (show j + 1 < i by omega) (by omega); grind
 obtain ⟨k, rfl⟩ : ∃ k, j = i + k := ⟨j - i, by omega⟩
 have hsame : ∀ m, m ≤ k → wayOf p (i + m) = wayOf p i := by
  intro m
  induction m with
  | zero => intro _; rfl
  | succ m ih =>
   intro hm
   rw [← ih (by omega)]
   refine Classical.byContradiction fun hne => ?_
   have hc : (p (i + (m + 1))).1 ∈ cutsT n p := List.mem_map.2 ⟨i + (m + 1), tnL_mem.2 ⟨by omega, by omega, by rw [show i + (m + 1) - 1 = i + m by omega]; exact fun he => hne he.symm⟩, rfl⟩
   have c1 : val a < val (p (i + (m + 1))).1 := by
    by_cases h0 : m = 0
    ·subst h0; exact i2
    ·have := h.xlt (show i + 1 < i + (m + 1) by omega) (by omega); grind
   have c2 : val (p (i + (m + 1))).1 < val b := by
    by_cases h0 : m + 1 = k
    ·rw [h0]; exact j1
    ·have := h.xlt (show i + (m + 1) < i + k by omega) (by omega); grind
   exact hno _ hc ⟨c1, c2⟩
 have oa' := on_move h hi hma oa i1 (by grind)
 have ob' := on_move h hj hmb ob (by grind) j2
 have key := climb h (σ := ((wayOf p i : Int) : Rat)) oa' k hj ob' hab (fun m h1 h2 => by
  obtain ⟨q, rfl⟩ : ∃ q, m = i + q := ⟨m - i, by omega⟩
  rw [← hsame q (by omega)]
  exact way_pos hw (by omega))
 exact ⟨key, by rw [hsame k (Nat.le_refl _)]; exact key⟩
end
end Go.PV

/-
 Plain laws: the way through the cuts, and the values on it.
 Conditions: none.
-/
set_option linter.all false
namespace Go.PV
inductive Gd (S : Rt → Rt → Prop) (T : Rt → Rt → Rt → Prop) : List Rt → Prop
 | one (x : Rt) : Gd S T [x]
 | two (x y : Rt) : S x y → Gd S T [x, y]
 | more (W : List Rt) (x y z : Rt) : Gd S T (W ++ [x, y]) → S y z → T x y z → Gd S T (W ++ [x, y, z])
def Ix (S : Rt → Rt → Prop) (T : Rt → Rt → Rt → Prop) (l : List Rt) : Prop :=
 (∀ i, i + 1 < l.length → S (l.getD i default) (l.getD (i + 1) default)) ∧ ∀ i, i + 2 < l.length → T (l.getD i default) (l.getD (i + 1) default) (l.getD (i + 2) default)
theorem yse {l r : List Rt} {i : Nat} (h : i < l.length) : (l ++ r).getD i default = l.getD i default := by
 rw [List.getD_eq_getElem?_getD, List.getD_eq_getElem?_getD, List.getElem?_append_left h]
theorem yzb {l r : List Rt} (i : Nat) : (l ++ r).getD (l.length + i) default = r.getD i default := by
 rw [List.getD_eq_getElem?_getD, List.getD_eq_getElem?_getD, List.getElem?_append_right (by omega), Nat.add_sub_cancel_left]
theorem Gd.ix {S : Rt → Rt → Prop} {T : Rt → Rt → Rt → Prop} {l : List Rt} (h : Gd S T l) : Ix S T l := by
 induction h with
 | one x => exact ⟨fun i hi => by simp at hi, fun i hi => by simp at hi⟩
 | two x y hs =>
  refine ⟨fun i hi => ?_, fun i hi => by simp at hi; omega⟩
  simp at hi
  have : i = 0 := by omega
  subst this
  exact hs
 | more W x y z _ hs ht ih =>
  obtain ⟨h1, h2⟩ := ih
  have e : W ++ [x, y, z] = (W ++ [x, y]) ++ [z] := by simp
  have gx : (W ++ [x, y, z]).getD W.length default = x := yzb 0
  have gy : (W ++ [x, y, z]).getD (W.length + 1) default = y := yzb 1
  have gz : (W ++ [x, y, z]).getD (W.length + 2) default = z := yzb 2
  have gl : ∀ i, i < W.length + 2 → (W ++ [x, y, z]).getD i default = (W ++ [x, y]).getD i default := fun i hi => by rw [e]; exact yse (by simp; omega)
  refine ⟨fun i hi => ?_, fun i hi => ?_⟩
  ·simp at hi
   by_cases hl : i = W.length + 1
   ·subst hl; rw [gy, gz]; exact hs
   ·rw [gl i (by omega), gl (i + 1) (by omega)]; exact h1 i (by simp; omega)
  ·simp at hi
   by_cases hl : i = W.length
   ·subst hl; rw [gx, gy, gz]; exact ht
   ·rw [gl i (by omega), gl (i + 1) (by omega), gl (i + 2) (by omega)]; exact h2 i (by simp; omega)
def Lt (ρ : Rat) (a b : Rt) : Prop := 0 < ρ * (val b - val a)
theorem lt_pos {a b : Rt} : Lt 1 a b ↔ val a < val b := by unfold Lt; grind
theorem lt_neg {a b : Rt} : Lt (-1) a b ↔ val b < val a := by unfold Lt; grind
theorem Lt.trans {ρ : Rat} {a b c : Rt} (h1 : Lt ρ a b) (h2 : Lt ρ b c) : Lt ρ a c := by unfold Lt at *; grind
theorem Lt.irr {ρ : Rat} {a : Rt} (h : Lt ρ a a) : False := by unfold Lt at h; grind
def Tu (u a b : Rt) : Prop := (val a < val u ∧ val a < val b) ∨ (val u < val a ∧ val b < val a)
section
variable {cuts : List Rt}
def Seg (cuts : List Rt) (a b : Rt) : Prop := (val a < val b ∧ NoCut cuts a b) ∨ (val b < val a ∧ NoCut cuts b a)
def Tri (cuts : List Rt) (u a b : Rt) : Prop := Tu u a b ∨ (a ∈ cuts ∧ ((val u < val a ∧ val a < val b) ∨ (val b < val a ∧ val a < val u)))
theorem seg_of {ρ : Rat} (hr : ρ = 1 ∨ ρ = -1) {a b : Rt} (h : Lt ρ a b) (hn : ∀ c ∈ cuts, ¬ (Lt ρ a c ∧ Lt ρ c b)) : Seg cuts a b := by
 rcases hr with rfl | rfl
 ·left; exact ⟨lt_pos.1 h, fun c hc hh => hn c hc ⟨lt_pos.2 hh.1, lt_pos.2 hh.2⟩⟩
 ·right; exact ⟨lt_neg.1 h, fun c hc hh => hn c hc ⟨lt_neg.2 hh.2, lt_neg.2 hh.1⟩⟩
theorem pass_of {ρ : Rat} (hr : ρ = 1 ∨ ρ = -1) {u a b : Rt} (ha : a ∈ cuts) (h1 : Lt ρ u a) (h2 : Lt ρ a b) : Tri cuts u a b := by
 rcases hr with rfl | rfl
 ·exact .inr ⟨ha, .inl ⟨lt_pos.1 h1, lt_pos.1 h2⟩⟩
 ·exact .inr ⟨ha, .inr ⟨lt_neg.1 h2, lt_neg.1 h1⟩⟩
theorem seg_more {ρ : Rat} (hr : ρ = 1 ∨ ρ = -1) {b : Rt} : ∀ (cs W : List Rt) (u a : Rt), Gd (Seg cuts) (Tri cuts) (W ++ [u, a]) → (∀ z, Lt ρ a z → Tri cuts u a z) → cs.Pairwise (Lt ρ) → (∀ c ∈ cs, c ∈ cuts ∧ Lt ρ a c ∧ Lt ρ c b) → (∀ c ∈ cuts, Lt ρ a c → Lt ρ c b → c ∈ cs) → Lt ρ a b →
  ∃ W' v, W ++ [u, a] ++ cs ++ [b] = W' ++ [v, b] ∧ Lt ρ v b ∧ Gd (Seg cuts) (Tri cuts) (W' ++ [v, b])
 | [], W, u, a, hg, ht, _, _, hall, hab => by
  refine ⟨W ++ [u], a, by simp, hab, ?_⟩
  have : W ++ [u] ++ [a, b] = W ++ [u, a, b] := by simp
  rw [this]
  exact .more W u a b hg (seg_of hr hab fun c hc hh => by cases hall c hc hh.1 hh.2) (ht b hab)
 | c :: cs, W, u, a, hg, ht, hp, hin, hall, hab => by
  obtain ⟨c1, c2, c3⟩ := hin c (by simp)
  obtain ⟨p1, p2⟩ := List.pairwise_cons.1 hp
  have hgc : Gd (Seg cuts) (Tri cuts) (W ++ [u] ++ [a, c]) := by
   have : W ++ [u] ++ [a, c] = W ++ [u, a, c] := by simp
   rw [this]
   refine .more W u a c hg (seg_of hr c2 fun d hd hh => ?_) (ht c c2)
   rcases List.mem_cons.1 (hall d hd hh.1 (hh.2.trans c3)) with rfl | hm
   ·exact hh.2.irr
   ·exact ((p1 d hm).trans hh.2).irr
  obtain ⟨W', v, e1, e2, e3⟩ := seg_more hr (b := b) cs (W ++ [u]) a c hgc (fun z hz => pass_of hr c1 c2 hz) p2 (fun d hd => ⟨(hin d (by simp [hd])).1, p1 d hd, (hin d (by simp [hd])).2.2⟩) (fun d hd h1 h2 => by
   rcases List.mem_cons.1 (hall d hd (c2.trans h1) h2) with rfl | hm
   ·exact h1.irr.elim
   ·exact hm) c3
  exact ⟨W', v, by rw [← e1]; simp, e2, e3⟩
theorem seg_one {ρ : Rat} (hr : ρ = 1 ∨ ρ = -1) {a b : Rt} (cs : List Rt) (hp : cs.Pairwise (Lt ρ)) (hin : ∀ c ∈ cs, c ∈ cuts ∧ Lt ρ a c ∧ Lt ρ c b) (hall : ∀ c ∈ cuts, Lt ρ a c → Lt ρ c b → c ∈ cs) (hab : Lt ρ a b) :
  ∃ W' v, [a] ++ cs ++ [b] = W' ++ [v, b] ∧ Lt ρ v b ∧ Gd (Seg cuts) (Tri cuts) (W' ++ [v, b]) := by
 cases cs with
 | nil => exact ⟨[], a, rfl, hab, .two a b (seg_of hr hab fun c hc hh => by cases hall c hc hh.1 hh.2)⟩
 | cons c cs =>
  obtain ⟨c1, c2, c3⟩ := hin c (by simp)
  obtain ⟨p1, p2⟩ := List.pairwise_cons.1 hp
  have hgc : Gd (Seg cuts) (Tri cuts) ([] ++ [a, c]) := .two a c (seg_of hr c2 fun d hd hh => by
   rcases List.mem_cons.1 (hall d hd hh.1 (hh.2.trans c3)) with rfl | hm
   ·exact hh.2.irr
   ·exact ((p1 d hm).trans hh.2).irr)
  obtain ⟨W', v, e1, e2, e3⟩ := seg_more hr (b := b) cs [] a c hgc (fun z hz => pass_of hr c1 c2 hz) p2 (fun d hd => ⟨(hin d (by simp [hd])).1, p1 d hd, (hin d (by simp [hd])).2.2⟩) (fun d hd h1 h2 => by
   rcases List.mem_cons.1 (hall d hd (c2.trans h1) h2) with rfl | hm
   ·exact h1.irr.elim
   ·exact hm) c3
  exact ⟨W', v, by rw [← e1]; simp, e2, e3⟩
theorem btw_seg (hc : ∀ x ∈ cuts, isUnit x = true) (hs : cuts.Pairwise (Lt 1)) {ρ : Rat} (hr : ρ = 1 ∨ ρ = -1) {a b : Rt} (ha : isUnit a = true) (hb : isUnit b = true) (hab : Lt ρ a b) : (btw cuts a b).Pairwise (Lt ρ) ∧ (∀ c ∈ btw cuts a b, c ∈ cuts ∧ Lt ρ a c ∧ Lt ρ c b) ∧ (∀ c ∈ cuts, Lt ρ a c → Lt ρ c b → c ∈ btw cuts a b) := by
 have pa := rt_pos (unit_rat ha)
 have pb := rt_pos (unit_rat hb)
 have pc : ∀ x ∈ cuts, 0 < x.2 := fun x hx => rt_pos (unit_rat (hc x hx))
 unfold btw
 rcases hr with rfl | rfl
 ·have h1 := lt_pos.1 hab
  have h2 : less b a = false := (yca pb pa).2 (by grind)
  simp only [h2, Bool.false_eq_true, if_false]
  refine ⟨hs.filter _, fun c hcm => ?_, fun c hcm h3 h4 => ?_⟩
  ·obtain ⟨m1, m2⟩ := List.mem_filter.1 hcm
   rw [Bool.and_eq_true] at m2
   exact ⟨m1, lt_pos.2 ((less_val pa (pc c m1)).1 m2.1), lt_pos.2 ((less_val (pc c m1) pb).1 m2.2)⟩
  ·refine List.mem_filter.2 ⟨hcm, ?_⟩
   rw [Bool.and_eq_true]
   exact ⟨(less_val pa (pc c hcm)).2 (lt_pos.1 h3), (less_val (pc c hcm) pb).2 (lt_pos.1 h4)⟩
 ·have h1 := lt_neg.1 hab
  have h2 : less b a = true := (less_val pb pa).2 h1
  simp only [h2, if_true]
  refine ⟨?_, fun c hcm => ?_, fun c hcm h3 h4 => ?_⟩
  ·rw [List.pairwise_reverse]
   exact (hs.filter _).imp fun h => lt_neg.2 (lt_pos.1 h)
  ·obtain ⟨m1, m2⟩ := List.mem_filter.1 (List.mem_reverse.1 hcm)
   rw [Bool.and_eq_true] at m2
   exact ⟨m1, lt_neg.2 ((less_val (pc c m1) pa).1 m2.2), lt_neg.2 ((less_val pb (pc c m1)).1 m2.1)⟩
  ·refine List.mem_reverse.2 (List.mem_filter.2 ⟨hcm, ?_⟩)
   rw [Bool.and_eq_true]
   exact ⟨(less_val pb (pc c hcm)).2 (lt_neg.1 h4), (less_val (pc c hcm) pa).2 (lt_neg.1 h3)⟩
theorem way_dir {a b : Rt} (h : val a ≠ val b) : ∃ ρ : Rat, (ρ = 1 ∨ ρ = -1) ∧ Lt ρ a b := by
 by_cases h1 : val a < val b
 ·exact ⟨1, .inl rfl, lt_pos.2 h1⟩
 ·exact ⟨-1, .inr rfl, lt_neg.2 (by grind)⟩
theorem way_good (hc : ∀ x ∈ cuts, isUnit x = true) (hs : cuts.Pairwise (Lt 1)) {e : Nat → Rt} {K : Nat} (he : ∀ i, i ≤ K → isUnit (e i) = true) (h1 : ∀ i, i + 1 ≤ K → val (e i) ≠ val (e (i + 1))) (h2 : ∀ i, i + 2 ≤ K → Tu (e i) (e (i + 1)) (e (i + 2))) :
  ∀ k, k + 1 ≤ K → ∃ W v ρ, (ρ = 1 ∨ ρ = -1) ∧ wayN cuts e (k + 1) = W ++ [v, e (k + 1)] ∧ Gd (Seg cuts) (Tri cuts) (W ++ [v, e (k + 1)]) ∧ Lt ρ v (e (k + 1)) ∧ Lt ρ (e k) (e (k + 1))
 | 0, hk => by
  obtain ⟨ρ, hr, hl⟩ := way_dir (h1 0 hk)
  obtain ⟨b1, b2, b3⟩ := btw_seg hc hs hr (he 0 (by omega)) (he 1 hk) hl
  obtain ⟨W, v, e1, e2, e3⟩ := seg_one hr _ b1 b2 b3 hl
  exact ⟨W, v, ρ, hr, e1, e3, e2, hl⟩
 | k + 1, hk => by
  obtain ⟨W, v, ρ, hr, e1, e2, e3, e4⟩ := way_good hc hs he h1 h2 k (by omega)
  have hr' : -ρ = 1 ∨ -ρ = -1 := by rcases hr with rfl | rfl <;> grind
  have ht := h2 k (by omega)
  have hl : Lt (-ρ) (e (k + 1)) (e (k + 1 + 1)) := by
   rcases hr with rfl | rfl
   ·have := lt_pos.1 e4
    refine lt_neg.2 ?_
    rcases ht with ⟨t1, t2⟩ | ⟨t1, t2⟩
    ·grind
    ·exact t2
   ·have := lt_neg.1 e4
    rw [show -(-1 : Rat) = 1 by grind]
    refine lt_pos.2 ?_
    rcases ht with ⟨t1, t2⟩ | ⟨t1, t2⟩
    ·exact t2
    ·grind
  obtain ⟨b1, b2, b3⟩ := btw_seg hc hs hr' (he (k + 1) (by omega)) (he (k + 1 + 1) hk) hl
  obtain ⟨W', v', f1, f2, f3⟩ := seg_more hr' (b := e (k + 1 + 1)) _ W v (e (k + 1)) e2 (fun z hz => by
   left
   rcases hr with rfl | rfl
   ·exact .inr ⟨lt_pos.1 e3, lt_neg.1 hz⟩
   ·exact .inl ⟨lt_neg.1 e3, lt_pos.1 (by rw [show -(-1 : Rat) = 1 by grind] at hz; exact hz)⟩) b1 b2 b3 hl
  refine ⟨W', v', -ρ, hr', ?_, f3, f2, hl⟩
  rw [← f1, ← e1]
  rfl
end
section
variable {n : Nat} {p : Nat → Pt}
theorem seg_vals (h : Curve n p) (hw : Ways n p) {a b u v : Rt} (ha : isUnit a = true) (hb : isUnit b = true) (hu : atQ n p a = some u) (hv : atQ n p b = some v) (hs : Seg (cutsT n p) a b) :
  (val a < val b → (∀ i, i + 1 < n → val (p i).1 ≤ val a → val a < val (p (i + 1)).1 → 0 < ((wayOf p i : Int) : Rat) * (val v - val u)) ∧ (∀ j, j + 1 < n → val (p j).1 < val b → val b ≤ val (p (j + 1)).1 → 0 < ((wayOf p j : Int) : Rat) * (val v - val u))) ∧
  (val b < val a → (∀ i, i + 1 < n → val (p i).1 ≤ val b → val b < val (p (i + 1)).1 → 0 < ((wayOf p i : Int) : Rat) * (val u - val v)) ∧ (∀ j, j + 1 < n → val (p j).1 < val a → val a ≤ val (p (j + 1)).1 → 0 < ((wayOf p j : Int) : Rat) * (val u - val v))) := by
 have ra := (unit_val (unit_rat ha)).1 ha
 have rb := (unit_val (unit_rat hb)).1 hb
 obtain ⟨ka, hka⟩ := findJ h ha
 obtain ⟨kb, hkb⟩ := findJ h hb
 obtain ⟨a1, a2⟩ := onP_of h ha hka hu
 obtain ⟨b1, b2⟩ := onP_of h hb hkb hv
 constructor
 ·intro hab
  have hno : NoCut (cutsT n p) a b := by
   rcases hs with ⟨_, hn⟩ | ⟨hlt, _⟩
   ·exact hn
   ·grind
  obtain ⟨j0, hj0, j1, j2⟩ := left_of h hb (by grind)
  obtain ⟨i0, hi0, i1, i2⟩ := right_of h ha (by grind)
  exact ⟨fun i hi x1 x2 => (one_way h hw ha hb a1 b1 a2 b2 hab hno hi x1 x2 hj0 j1 j2).1, fun j hj x1 x2 => (one_way h hw ha hb a1 b1 a2 b2 hab hno hi0 i1 i2 hj x1 x2).2⟩
 ·intro hab
  have hno : NoCut (cutsT n p) b a := by
   rcases hs with ⟨hlt, _⟩ | ⟨_, hn⟩
   ·grind
   ·exact hn
  obtain ⟨j0, hj0, j1, j2⟩ := left_of h ha (by grind)
  obtain ⟨i0, hi0, i1, i2⟩ := right_of h hb (by grind)
  exact ⟨fun i hi x1 x2 => (one_way h hw hb ha b1 a1 b2 a2 hab hno hi x1 x2 hj0 j1 j2).1, fun j hj x1 x2 => (one_way h hw hb ha b1 a1 b2 a2 hab hno hi0 i1 i2 hj x1 x2).2⟩
theorem seg_ne (h : Curve n p) (hw : Ways n p) {a b u v : Rt} (ha : isUnit a = true) (hb : isUnit b = true) (hu : atQ n p a = some u) (hv : atQ n p b = some v) (hs : Seg (cutsT n p) a b) : val u ≠ val v := by
 have ra := (unit_val (unit_rat ha)).1 ha
 have rb := (unit_val (unit_rat hb)).1 hb
 obtain ⟨s1, s2⟩ := seg_vals h hw ha hb hu hv hs
 intro he
 by_cases hab : val a < val b
 ·obtain ⟨i, hi, i1, i2⟩ := right_of h ha (by grind)
  have := (s1 hab).1 i hi i1 i2
  grind
 ·have hba : val b < val a := by rcases hs with ⟨h1, _⟩ | ⟨h1, _⟩ <;> grind
  obtain ⟨i, hi, i1, i2⟩ := right_of h hb (by grind)
  have := (s2 hba).1 i hi i1 i2
  grind
theorem tu_of {ρ : Rat} {a b c : Rat} (h1 : 0 < ρ * (a - b)) (h2 : 0 < ρ * (c - b)) : (b < a ∧ b < c) ∨ (a < b ∧ c < b) := by
 have neg : ∀ {x : Rat}, 0 < ρ * x → (0 < ρ → 0 < x) ∧ (ρ < 0 → x < 0) := by
  intro x hx
  constructor
  ·intro hr
   refine Classical.byContradiction fun hno => ?_
   have := Rat.mul_nonneg (show 0 ≤ ρ by grind) (show 0 ≤ -x by grind)
   grind
  ·intro hr
   refine Classical.byContradiction fun hno => ?_
   have := Rat.mul_nonneg (show 0 ≤ -ρ by grind) (show 0 ≤ x by grind)
   grind
 by_cases hr : 0 < ρ
 ·have x1 := (neg h1).1 hr
  have x2 := (neg h2).1 hr
  left; constructor <;> grind
 ·have hr' : ρ < 0 := by
   by_cases h0 : ρ = 0
   ·subst h0; grind
   ·grind
  have x1 := (neg h1).2 hr'
  have x2 := (neg h2).2 hr'
  right; constructor <;> grind
theorem tri_vals (h : Curve n p) (hw : Ways n p) {a b c u v w : Rt} (ha : isUnit a = true) (hb : isUnit b = true) (hc : isUnit c = true) (hu : atQ n p a = some u) (hv : atQ n p b = some v) (hww : atQ n p c = some w) (hs : Seg (cutsT n p) a b) (hs' : Seg (cutsT n p) b c) (ht : Tri (cutsT n p) a b c) : Tu u v w := by
 have ra := (unit_val (unit_rat ha)).1 ha
 have rb := (unit_val (unit_rat hb)).1 hb
 have rc := (unit_val (unit_rat hc)).1 hc
 obtain ⟨s1, s2⟩ := seg_vals h hw ha hb hu hv hs
 obtain ⟨t1, t2⟩ := seg_vals h hw hb hc hv hww hs'
 rcases ht with (⟨x1, x2⟩ | ⟨x1, x2⟩) | ⟨hm, hx⟩
 ·obtain ⟨i, hi, i1, i2⟩ := right_of h hb (by grind)
  exact tu_of ((s2 x1).1 i hi i1 i2) ((t1 x2).1 i hi i1 i2)
 ·obtain ⟨j, hj, j1, j2⟩ := left_of h hb (by grind)
  have y1 := (s1 x1).2 j hj j1 j2
  have y2 := (t2 x2).2 j hj j1 j2
  exact tu_of (ρ := -((wayOf p j : Int) : Rat)) (by grind) (by grind)
 ·obtain ⟨m, hm1, rfl⟩ := List.mem_map.1 hm
  obtain ⟨m1, m2, m3⟩ := tnL_mem.1 hm1
  have hn := h.lo
  have hmn : m + 1 < n := by omega
  have l1 := h.xlt (show m - 1 < m by omega) (by omega)
  have l2 := h.xlt (show m < m + 1 by omega) hmn
  have e : m - 1 + 1 = m := by omega
  have hopp : ((wayOf p (m - 1) : Int) : Rat) = -((wayOf p m : Int) : Rat) := by
   rcases hw (m - 1) (by omega) with ⟨q1, _⟩ | ⟨q1, _⟩ <;> rcases hw m hmn with ⟨q2, _⟩ | ⟨q2, _⟩
   ·exact absurd (q1.trans q2.symm) m3
   ·rw [q1, q2]; grind
   ·rw [q1, q2]; grind
   ·exact absurd (q1.trans q2.symm) m3
  rcases hx with ⟨x1, x2⟩ | ⟨x1, x2⟩
  ·have y1 := (s1 x1).2 (m - 1) (by omega) l1 (by rw [e]; exact Rat.le_refl)
   have y2 := (t1 x2).1 m hmn Rat.le_refl l2
   rw [hopp] at y1
   exact tu_of (ρ := ((wayOf p m : Int) : Rat)) (by grind) y2
  ·have y1 := (s2 x2).1 m hmn Rat.le_refl l2
   have y2 := (t2 x1).2 (m - 1) (by omega) l1 (by rw [e]; exact Rat.le_refl)
   rw [hopp] at y2
   exact tu_of (ρ := ((wayOf p m : Int) : Rat)) y1 (by grind)
theorem valsO_at : ∀ (xs l l' : List Rt), valsO n p (some l) xs = some l' → l'.length = l.length + xs.length ∧ (∀ i, i < l.length → l'.getD i default = l.getD i default) ∧ ∀ i, i < xs.length → atQ n p (xs.getD i default) = some (l'.getD (l.length + i) default)
 | [], l, l', h => by
  simp [valsO] at h
  subst h
  exact ⟨rfl, fun _ _ => rfl, fun i hi => by simp at hi⟩
 | x :: xs, l, l', h => by
  rw [show x :: xs = [x] ++ xs from rfl, yra, ykb] at h
  cases hx : atQ n p x with
  | none => rw [hx] at h; simp only [Option.map_none, Option.bind_some] at h; rw [yxb] at h; cases h
  | some y =>
   rw [hx] at h
   simp only [Option.map_some, Option.bind_some] at h
   obtain ⟨h1, h2, h3⟩ := valsO_at xs (l ++ [y]) l' h
   simp only [List.length_append, List.length_singleton] at h1 h2 h3
   refine ⟨by simp; omega, fun i hi => by rw [h2 i (by omega), yse hi], fun i hi => ?_⟩
   cases i with
   | zero =>
    have := h2 l.length (by omega)
    have g : (l ++ [y]).getD (l.length + 0) default = y := yzb 0
    rw [Nat.add_zero] at g ⊢
    rw [this, g]
    exact hx
   | succ i =>
    have := h3 i (by simpa using hi)
    rw [show l.length + (i + 1) = l.length + 1 + i by omega, ← this]
    rfl
def Alt (l : List Rt) : Prop := (∀ i, i + 1 < l.length → val (l.getD i default) ≠ val (l.getD (i + 1) default)) ∧ ∀ i, i + 2 < l.length → Tu (l.getD i default) (l.getD (i + 1) default) (l.getD (i + 2) default)
theorem cuts_up (h : Curve n p) : (cutsT n p).Pairwise (Lt 1) := by
 unfold cutsT
 rw [List.pairwise_map]
 refine List.Pairwise.imp_of_mem ?_ (tnL_up (wayOf p) (n - 2))
 intro a b ha hb hab
 have h1 := tnL_mem.1 ha
 have h2 := tnL_mem.1 hb
 have := h.lo
 exact lt_pos.2 (h.xlt hab (by omega))
theorem it_alt (h : Curve n p) (hy : ∀ i, i < n → coord (p i).2 = true) (hw : Ways n p) (hcr : ∀ x ∈ cutsT n p, isUnit x = true) (hcl : (cutsT n p).length ≤ 12) : ∀ {k : Nat} {l : List Rt}, itO n p (cutsT n p) k = some l → Alt l
 | 0, l, e => by
  obtain rfl := Option.some.inj e
  refine ⟨fun i hi => ?_, fun i hi => by simp at hi; omega⟩
  simp at hi
  obtain rfl : i = 0 := by omega
  show ((0 : Int) : Rat) / ((1 : Int) : Rat) ≠ ((1 : Int) : Rat) / ((1 : Int) : Rat)
  grind
 | k + 1, l, e => by
  obtain ⟨l0, e1, e2⟩ := Option.bind_eq_some_iff.1 e
  obtain ⟨i1, i2⟩ := it_alt h hy hw hcr hcl e1
  have E := it_ends h hy hcr hcl e1
  have hlo := E.lo
  unfold nextO at e2
  split at e2
  ·rename_i hlen
   obtain ⟨v1, _, v3⟩ := valsO_at _ _ _ e2
   simp only [List.length_nil, Nat.zero_add] at v1 v3
   have hu := wayN_mem (e := fun i => l0.getD i default) (P := fun x => isUnit x = true) hcr (l0.length - 1) fun i hi => E.at (by omega)
   obtain ⟨W, v, ρ, _, w1, w2, _, _⟩ := way_good (cuts := cutsT n p) hcr (cuts_up h) (e := fun i => l0.getD i default) (K := l0.length - 1) (fun i hi => E.at (by omega)) (fun i hi => i1 i (by omega)) (fun i hi => i2 i (by omega)) (l0.length - 2) (by omega)
   rw [show l0.length - 2 + 1 = l0.length - 1 by omega] at w1 w2
   rw [← w1] at w2
   obtain ⟨x1, x2⟩ := w2.ix
   generalize wayN (cutsT n p) (fun i => l0.getD i default) (l0.length - 1) = w at *
   have hun : ∀ i, i < w.length → isUnit (w.getD i default) = true := fun i hi => hu _ (by simp [hi])
   refine ⟨fun i hi => ?_, fun i hi => ?_⟩
   ·rw [v1] at hi
    exact seg_ne h hw (hun i (by omega)) (hun (i + 1) hi) (v3 i (by omega)) (v3 (i + 1) hi) (x1 i hi)
   ·rw [v1] at hi
    exact tri_vals h hw (hun i (by omega)) (hun (i + 1) (by omega)) (hun (i + 2) hi) (v3 i (by omega)) (v3 (i + 1) (by omega)) (v3 (i + 2) hi) (x1 i (by omega)) (x1 (i + 1) (by omega)) (x2 i hi)
  ·cases e2
end
end Go.PV

/-
 Plain laws: vectors of walks, bounds of growth.
 Conditions: none.
-/
set_option linter.all false
namespace Go.PV
def vk (G : Nat → Nat → Int) (n : Nat) : Nat → Nat → Int
 | 0 => fun _ => 1
 | k + 1 => fun j => dotN (G j) (vk G n k) n + vk G n k j
def mxg (G : Nat → Nat → Int) (n : Nat) : Nat → Nat
 | 0 => 0
 | k + 1 => if mxg G n k = k ∧ isVec (tab n (vk G n (k + 1))) = true then k + 1 else mxg G n k
section
variable {n : Nat} {G : Nat → Nat → Int}
def bestT (G : Nat → Nat → Int) (n : Nat) : (Int × Int) × (Int × Int) × Int × Bool := (mnN (ratN G (vk G n (mxg G n 20)) n) n, mxN (ratN G (vk G n (mxg G n 20)) n) n, ((mxg G n 20 : Nat) : Int), true)
end
end Go.PV

/-
 Plain laws: what draws from bytes always comes to an end.
 Conditions: none.
-/
set_option linter.all false
namespace Go.PV
def Tot {α : Type} (o : Option α) (P : α → Prop) : Prop := ∃ r, o = some r ∧ P r
section
variable {α β : Type} {P : α → Prop} {Q : β → Prop}
theorem Tot.bind {o : Option α} {f : α → Option β} (h : Tot o P) (k : ∀ r, P r → Tot (f r) Q) : Tot (o.bind f) Q := by
 obtain ⟨r, rfl, hr⟩ := h
 exact k r hr
theorem Tot.mono {P' : α → Prop} {o : Option α} (h : Tot o P) (k : ∀ r, P r → P' r) : Tot o P' := by
 obtain ⟨r, h, hr⟩ := h
 exact ⟨r, h, k r hr⟩
theorem Tot.ret {r : α} (h : P r) : Tot (some r) P := ⟨r, rfl, h⟩
theorem Tot.ite {c : Bool} {x y : Option α} (h1 : c = true → Tot x P) (h2 : c = false → Tot y P) : Tot (if c = true then x else y) P := by
 cases c
 ·exact h2 rfl
 ·exact h1 rfl
theorem Tot.guard {p : Prop} [Decidable p] {f : Unit → Option α} (h : p) (k : Tot (f ()) P) : Tot ((guardO p).bind f) P := by
 rw [guardO_bind_pos h]; exact k
def Lp {X Y : Type} (I : X → Prop) (R : Y → Prop) : X ⊕ Y → Prop
 | .inl x => I x
 | .inr y => R y
theorem Tot.inl {X Y : Type} {I : X → Prop} {R : Y → Prop} {x : X} (h : I x) : Tot (some (Sum.inl x)) (Lp I R) := ⟨_, rfl, h⟩
theorem Tot.inr {X Y : Type} {I : X → Prop} {R : Y → Prop} {y : Y} (h : R y) : Tot (some (Sum.inr y)) (Lp I R) := ⟨_, rfl, h⟩
theorem Tot.loop {X Y : Type} {body : X → Option (X ⊕ Y)} {R : Y → Prop} (Inv : X → Prop) (μ : X → Nat)
  (h : ∀ x, Inv x → Tot (body x) (Lp (fun x' => Inv x' ∧ μ x' < μ x) R)) (x0 : X) (h0 : Inv x0) : Tot (loopO body x0) R := by
 obtain ⟨y, h1, h2⟩ := loop_run (body := body) Inv μ R (fun x hx => by
  obtain ⟨r, e, hr⟩ := h x hx
  cases r with
  | inl x' => exact .inl ⟨x', e, hr.1, hr.2⟩
  | inr y => exact .inr ⟨y, e, hr⟩) x0 h0
 exact ⟨y, h1, h2⟩
end
theorem Tot.idx {α β : Type} {xs : List α} {i : Int} {f : α → Option β} {Q : β → Prop} (h0 : 0 ≤ i) (h1 : i < xs.length) (k : ∀ x, x ∈ xs → Tot (f x) Q) : Tot ((idxO xs i).bind f) Q := by
 obtain ⟨m, rfl⟩ := Int.eq_ofNat_of_zero_le h0
 have hm : m < xs.length := by omega
 rw [idxO_lt hm, Option.bind_some]
 exact k _ (List.getElem_mem hm)
abbrev Cur := List Int × Int × Int
def Bytes (l : List Int) : Prop := l.length ≤ 9223372036854775807 ∧ ∀ b ∈ l, 0 ≤ b ∧ b ≤ 255
def Ck (B : Nat) (c : Cur) : Prop := Bytes c.1 ∧ 0 ≤ c.2.1 ∧ c.2.1 ≤ B
theorem Ck.mono {B B' : Nat} {c : Cur} (h : Ck B c) (hb : B ≤ B') : Ck B' c := ⟨h.1, h.2.1, by have := h.2.2; omega⟩
theorem ck0 {l : List Int} (h : Bytes l) : Ck 0 (l, 0, 0) := ⟨h, by simp, by simp⟩
theorem wrapU64 (n : Int) : IntKind.u64.wrap n = n % 18446744073709551616 := by simp [IntKind.wrap, IntKind.bits, IntKind.signed]
theorem wrap_i64 (n : Int) : IntKind.wrap .i64 n = w64 n := rfl
theorem iand_255 (x : Int) : 0 ≤ iand .u64 x 255 ∧ iand .u64 x 255 ≤ 255 := by
 unfold iand
 have h : ((BitVec.ofInt (IntKind.bits .u64) x) &&& (BitVec.ofInt (IntKind.bits .u64) 255)).toNat ≤ 255 := by
  rw [BitVec.toNat_and]
  have : (BitVec.ofInt (IntKind.bits .u64) 255).toNat = 255 := by decide
  rw [this]
  exact Nat.and_le_right
 rw [wrapU64, Int.emod_eq_of_lt (by omega) (by omega)]
 omega
theorem next_ok {B : Nat} {c : Cur} (h : Ck B c) (hB : B ≤ 1152921504606846976) : Tot (spec_l1Cur_next c) fun r => (0 ≤ r.1 ∧ r.1 ≤ 255) ∧ Ck (B + 1) r.2 := by
 obtain ⟨⟨hl, hb⟩, h0, h1⟩ := h
 have hw : w64 (c.2.1 + 1) = c.2.1 + 1 := w64_id (by omega) (by omega)
 have key : ∀ x : Int, 0 ≤ x → x ≤ 255 → Tot (spec_l1Cur_next_k1 c x) fun r => (0 ≤ r.1 ∧ r.1 ≤ 255) ∧ Ck (B + 1) r.2 := by
  intro x hx0 hx1
  unfold spec_l1Cur_next_k1
  rw [hw]
  refine Tot.ite (fun _ => Tot.ret ⟨⟨hx0, hx1⟩, ⟨hl, hb⟩, by show 0 ≤ c.2.1 + 1; omega, by show c.2.1 + 1 ≤ _; omega⟩) (fun _ => Tot.ret ⟨?_, ⟨hl, hb⟩, by show 0 ≤ c.2.1 + 1; omega, by show c.2.1 + 1 ≤ _; omega⟩)
  rw [wrap_i64]
  obtain ⟨a, b⟩ := iand_255 (ishr .u64 (IntKind.wrap .u64 ((IntKind.wrap .u64 ((IntKind.wrap .u64 (c.2.2 * 6364136223846793005)) + (IntKind.wrap .u64 x))) + 1442695040888963407)) 40)
  show 0 ≤ w64 _ ∧ w64 _ ≤ 255
  rw [w64_id (by omega) (by omega)]
  exact ⟨a, b⟩
 unfold spec_l1Cur_next
 refine Tot.ite (fun hc => ?_) (fun _ => key 0 (by omega) (by omega))
 have hlt : c.2.1 < (c.1.length : Int) := of_decide_eq_true hc
 refine Tot.idx h0 hlt fun x hx => ?_
 have := hb x hx
 rw [wrap_i64, w64_id (by omega) (by omega)]
 exact key x this.1 this.2
theorem tmod_rng {x n : Int} (hx : 0 ≤ x) (hn : 1 ≤ n) : 0 ≤ Int.tmod x n ∧ Int.tmod x n < n := by
 obtain ⟨a, rfl⟩ := Int.eq_ofNat_of_zero_le hx
 obtain ⟨b, rfl⟩ := Int.eq_ofNat_of_zero_le (show 0 ≤ n by omega)
 have : Int.tmod (a : Int) (b : Int) = ((a % b : Nat) : Int) := rfl
 rw [this]
 have := Nat.mod_lt a (show b > 0 by omega)
 omega
theorem pick_ok {B : Nat} {c : Cur} (h : Ck B c) (hB : B ≤ 1000000000000000000) (n : Int) : Tot (spec_l1Cur_pick c n) fun r => (0 ≤ r.1 ∧ (1 ≤ n → r.1 < n)) ∧ Ck (B + 2) r.2 := by
 unfold spec_l1Cur_pick
 refine Tot.ite (fun hc => Tot.ret ⟨⟨by show (0 : Int) ≤ 0; omega, fun h => by show (0 : Int) < n; omega⟩, h.mono (by omega)⟩) (fun hc => ?_)
 have hn : ¬ n ≤ 1 := of_decide_eq_false hc
 refine (next_ok h (by omega)).bind fun v2 ⟨⟨h1, h2⟩, h3⟩ => ?_
 refine Tot.ite (fun _ => ?_) (fun _ => ?_)
 ·refine (next_ok h3 (by omega)).bind fun v6 ⟨⟨h4, h5⟩, h6⟩ => ?_
  unfold spec_l1Cur_pick_k1
  refine Tot.guard (by omega) (Tot.ret ?_)
  have e : w64 ((w64 (v2.1 * 256)) + v6.1) = v2.1 * 256 + v6.1 := by rw [w64_id (n := v2.1 * 256) (by omega) (by omega), w64_id (by omega) (by omega)]
  have := tmod_rng (x := v2.1 * 256 + v6.1) (n := n) (by omega) (by omega)
  simp only [e]
  exact ⟨⟨this.1, fun _ => this.2⟩, h6⟩
 ·unfold spec_l1Cur_pick_k1
  refine Tot.guard (by omega) (Tot.ret ?_)
  have := tmod_rng (x := v2.1) (n := n) (by omega) (by omega)
  exact ⟨⟨this.1, fun _ => this.2⟩, h3.mono (by omega)⟩
theorem one_ok {B : Nat} {c : Cur} (h : Ck B c) (hB : B ≤ 1000000000000000000) (n : Int) : Tot (spec_l1Cur_one c n) fun r => Ck (B + 2) r.2 := by
 unfold spec_l1Cur_one
 exact (pick_ok h hB n).bind fun v h => Tot.ret h.2
theorem among_ok {B : Nat} {c : Cur} (h : Ck B c) (hB : B ≤ 1000000000000000000) (l : List Int) (hl : l ≠ []) : Tot (spec_l1Cur_among c l) fun r => r.1 ∈ l ∧ Ck (B + 2) r.2 := by
 unfold spec_l1Cur_among
 refine (pick_ok h hB _).bind fun v ⟨⟨h1, h2⟩, h3⟩ => ?_
 have : 0 < l.length := List.length_pos_iff.2 hl
 refine Tot.idx h1 (h2 (by omega)) fun x hx => Tot.ret ⟨hx, h3⟩
end Go.PV
namespace Go.PV
def cur4 {α : Type} (x : List Int × Int × Int × α) : Cur := (x.1, x.2.1, x.2.2.1)
def En (l : List Int) : Prop := ∀ x ∈ l, 0 ≤ x ∧ x ≤ 9
theorem En.set {l : List Int} {i : Nat} {x : Int} (h : En l) (h0 : 0 ≤ x) (h9 : x ≤ 9) : En (l.set i x) := fun y hy => by
 rcases List.mem_or_eq_of_mem_set hy with h' | rfl
 ·exact h y h'
 ·exact ⟨h0, h9⟩
def Sq (n : Int) (g : List (List Int)) : Prop := (g.length : Int) = n ∧ ∀ row ∈ g, (row.length : Int) = n ∧ En row
theorem mem_set {α : Type} {xs : List α} {i : Nat} {a x : α} (h : x ∈ xs.set i a) : x ∈ xs ∨ x = a := List.mem_or_eq_of_mem_set h
theorem Sq.set {n : Int} {g : List (List Int)} (h : Sq n g) {i : Nat} {row : List Int} (hr : (row.length : Int) = n ∧ En row) : Sq n (g.set i row) := ⟨by rw [List.length_set]; exact h.1, fun r hr' => by
 rcases mem_set hr' with h' | rfl
 ·exact h.2 r h'
 ·exact hr⟩
def Sm (g : List (List Int)) : Prop := g.length ≤ 9 ∧ ∀ row ∈ g, row.length ≤ 9
theorem Sm.sized {g : List (List Int)} (h : Sm g) : sized g := ⟨by have := h.1; omega, fun row hr => by have := h.2 row hr; omega⟩
end Go.PV

/-
 Plain laws: what draws fractions and vectors always comes to an end.
 Conditions: none.
-/
set_option linter.all false
namespace Go.PV
theorem rat_ok {B : Nat} (hB : B ≤ 100000000) {c : Cur} (hc : Ck B c) : Tot (spec_l1Cur_rat c) fun r => isRat r.1 = true ∧ Ck (B + 12) r.2 := by
 unfold spec_l1Cur_rat
 refine (pick_ok hc (by omega) _).bind fun v1 ⟨⟨a1, a2⟩, h1⟩ => ?_
 refine (pick_ok h1 (by omega) _).bind fun v2 ⟨⟨b1, b2⟩, h2⟩ => ?_
 refine (among_ok h2 (by omega) _ (by simp)).bind fun v3 ⟨m3, h3⟩ => ?_
 refine (pick_ok h3 (by omega) _).bind fun v4 ⟨⟨d1, d2⟩, h4⟩ => ?_
 refine (pick_ok h4 (by omega) _).bind fun v5 ⟨⟨e1, e2⟩, h5⟩ => ?_
 refine (among_ok h5 (by omega) _ (by simp)).bind fun v6 ⟨m6, h6⟩ => ?_
 have a3 := a2 (by omega); have b3 := b2 (by omega); have d3 := d2 (by omega); have e3 := e2 (by omega)
 rw [w64_id (by omega) (by omega), w64_id (by omega) (by omega)] at m3 m6
 simp only [List.mem_cons, List.not_mem_nil, or_false] at m3 m6
 rw [yda v3.1 v6.1 (by omega) (by omega) (by omega) (by omega) (by omega), Option.bind_some]
 unfold spec_raInt
 cases hq : lowQ v3.1 v6.1 with
 | none => exact Tot.ret ⟨yef, h6⟩
 | some q => exact Tot.ret ⟨lowQ_rat hq, h6⟩
theorem yte {B : Nat} (hB : B ≤ 100000000) {c : Cur} (hc : Ck B c) : Tot (spec_l1Cur_anyRat c) fun r => Ck (B + 18) r.2 := by
 unfold spec_l1Cur_anyRat
 refine (rat_ok hB hc).bind fun v1 ⟨_, h1⟩ => ?_
 refine (pick_ok h1 (by omega) _).bind fun v2 ⟨_, h2⟩ => ?_
 refine Tot.ite (fun _ => ?_) (fun _ => Tot.ite (fun _ => ?_) (fun _ => Tot.ite (fun _ => ?_) (fun _ => Tot.ret (h2.mono (by omega)))))
 ·exact (among_ok h2 (by omega) _ (by simp)).bind fun v ⟨_, h⟩ => Tot.ret (h.mono (by omega))
 ·exact (among_ok h2 (by omega) _ (by simp)).bind fun v ⟨_, h⟩ => Tot.ret (h.mono (by omega))
 ·exact (among_ok h2 (by omega) _ (by simp)).bind fun v ⟨_, h⟩ => (among_ok h (by omega) _ (by simp)).bind fun w ⟨_, h'⟩ => Tot.ret (h'.mono (by omega))
end Go.PV

/-
 Plain laws: what draws lifts always comes to an end.
 Conditions: none.
-/
set_option linter.all false
namespace Go.PV
def Gr (r : Rt) : Prop := isRat r = true ∧ 0 ≤ r.1 ∧ r.1 ≤ 100 ∧ 1 ≤ r.2 ∧ r.2 ≤ 100
theorem ykf {v a : Int} (h0 : 0 ≤ v) (h1 : v ≤ a) (a1 : 1 ≤ a) (a2 : a ≤ 100) : Tot (spec_raMake v a) fun r => Gr r.1 := by
 obtain ⟨r, h⟩ := yta (n := v) (d := a) h0 (by omega) a1 (by omega)
 rw [yda v a (by omega) (by omega) (by omega) (by omega) (by omega), h.eq]
 have := h.num
 have := h.den
 have h2 : 0 ≤ r.1 := by
  by_cases hv : v = 0
  ·rw [h.zer hv]; omega
  ·have := h.pos (by omega); omega
 exact Tot.ret ⟨h.rat, h2, by show r.1 ≤ 100; omega, by show 1 ≤ r.2; omega, by show r.2 ≤ 100; omega⟩
theorem yac {B : Nat} (hB : B ≤ 100000000) {c : Cur} (hc : Ck B c) {a : Int} (a1 : 1 ≤ a) (a2 : a ≤ 100) : Tot (spec_l1Cur_gridRat c a) fun r => Gr r.1 ∧ Ck (B + 2) r.2 := by
 unfold spec_l1Cur_gridRat
 rw [w64_id (by omega) (by omega)]
 refine (pick_ok hc (by omega) _).bind fun v1 ⟨⟨b1, b2⟩, h1⟩ => ?_
 have := b2 (by omega)
 exact (ykf b1 (by omega) a1 a2).bind fun v2 h2 => Tot.ret ⟨h2, h1⟩
theorem ylf (a b : Rt) : ∃ r, spec_raCmp a b = some r := by
 unfold spec_raCmp spec_l1Sign
 by_cases h1 : w64 (w64 (a.1 * b.2) - w64 (b.1 * a.2)) > 0
 ·simp [h1]
 ·by_cases h2 : w64 (w64 (a.1 * b.2) - w64 (b.1 * a.2)) < 0 <;> simp [h1, h2]
theorem imPut_ok (xs : List Rt) (x : Rt) (hl : xs.length ≤ 1048576) : Tot (spec_imPut xs x) fun r => xs.length ≤ r.length ∧ r.length ≤ xs.length + 1 := by
 unfold spec_imPut
 refine Tot.bind (P := fun y : Int => 0 ≤ y ∧ y ≤ xs.length) ?_ fun y ⟨y0, y1⟩ => ?_
 ·refine Tot.loop (fun x => 0 ≤ x ∧ x ≤ (xs.length : Int)) (fun x => ((xs.length : Int) - x).toNat) (fun i ⟨i0, i1⟩ => ?_) _ ⟨by decide, by omega⟩
  unfold spec_imPut_b1
  refine Tot.bind (P := fun b => b = true → i < (xs.length : Int)) ?_ fun b hb => ?_
  ·refine Tot.ite (fun hi => ?_) (fun _ => Tot.ret fun h => by cases h)
   have hi' : i < (xs.length : Int) := of_decide_eq_true hi
   refine Tot.idx i0 hi' fun v _ => ?_
   obtain ⟨r, hr⟩ := ylf v x
   rw [hr, Option.bind_some]
   exact Tot.ret fun _ => hi'
  ·refine Tot.ite (fun h => ?_) (fun _ => Tot.inr ⟨i0, i1⟩)
   have := hb h
   have hw : w64 (i + 1) = i + 1 := w64_id (by omega) (by omega)
   rw [hw]
   exact Tot.inl ⟨⟨by omega, by omega⟩, by omega⟩
 ·unfold spec_imPut_k1
  refine Tot.bind (P := fun _ => True) ?_ fun b _ => ?_
  ·exact Tot.ite (fun hi => Tot.idx y0 (of_decide_eq_true hi) fun v _ => Tot.ret trivial) (fun _ => Tot.ret trivial)
  ·refine Tot.ite (fun _ => Tot.ret ⟨Nat.le_refl _, by omega⟩) (fun _ => ?_)
   refine Tot.guard ⟨y0, y1⟩ (Tot.guard (by simp; omega) (Tot.guard (by simp; omega) (Tot.guard (by simp; omega) (Tot.ret ⟨by simp; omega, by simp; omega⟩))))
def Gm (r : Rt) : Prop := -1000 ≤ r.1 ∧ r.1 ≤ 1000 ∧ 1 ≤ r.2 ∧ r.2 ≤ 100
end Go.PV

/-
 Plain laws: what draws maps and counts of steps always comes to an end.
 Conditions: none.
-/
set_option linter.all false
namespace Go.PV
theorem make_tot {n d : Int} (h1 : -1000 ≤ n) (h2 : n ≤ 1000) (h3 : 1 ≤ d) (h4 : d ≤ 1000) : Tot (spec_raMake n d) fun _ => True := by
 rw [yda n d (by omega) (by omega) (by omega) (by omega) (by omega)]
 exact Tot.ret trivial
theorem ync (n : Int) : Tot (spec_raInt n) fun _ => True := ⟨_, rfl, trivial⟩
theorem ymf {B : Nat} (hB : B ≤ 1000000) {c : Cur} (hc : Ck B c) {a : Int} (a1 : 1 ≤ a) (a2 : a ≤ 100) : Tot (spec_l1Cur_imGrid c a) fun r => (2 ≤ r.1.length ∧ r.1.length ≤ 12) ∧ Ck (B + 300) r.2 := by
 have k1 : ∀ (B' : Nat) (x2 : List Int × Int × Int × Int), B' + 250 ≤ B + 300 → x2.2.2.2 ≤ 10 → 0 ≤ x2.2.2.2 → Ck B' (cur4 x2) → Tot (spec_l1Cur_imGrid_k1 a x2) fun r => (2 ≤ r.1.length ∧ r.1.length ≤ 12) ∧ Ck (B + 300) r.2 := by
  intro B' x2 hB' h10 h0 hc
  unfold spec_l1Cur_imGrid_k1 spec_raInt
  simp only [Option.bind_some]
  refine Tot.bind (P := fun y : List Int × Int × Int × List Rt => (2 ≤ y.2.2.2.length ∧ y.2.2.2.length ≤ 12) ∧ Ck (B' + 120) (cur4 y)) ?_ fun y ⟨⟨y2, y12⟩, yc⟩ => ?_
  ·refine Tot.loop (fun x => (2 ≤ x.2.2.2.1.length ∧ x.2.2.2.1.length ≤ 12) ∧ (0 ≤ x.2.2.2.2 ∧ x.2.2.2.2 ≤ 60) ∧ Ck (B' + 2 * x.2.2.2.2.toNat) (cur4 x)) (fun x => (60 - x.2.2.2.2).toNat) (fun x ⟨⟨xl, xh⟩, ⟨t0, t1⟩, xc⟩ => ?_) _ ⟨⟨by simp, by simp⟩, ⟨by simp, by simp⟩, by simpa [cur4] using hc⟩
   obtain ⟨c1, c2, c3, l, tr⟩ := x
   simp only [cur4] at xl xh t0 t1 xc ⊢
   unfold spec_l1Cur_imGrid_b2
   rw [w64_id (n := x2.2.2.2 + 2) (by omega) (by omega)]
   refine Tot.ite (fun hk => ?_) (fun hk => Tot.inr ⟨⟨xl, xh⟩, xc.mono (by omega)⟩)
   simp only [Bool.and_eq_true, decide_eq_true_eq] at hk
   refine (yac (by omega) xc a1 a2).bind fun v36 ⟨_, h36⟩ => ?_
   refine (imPut_ok l v36.1 (by omega)).bind fun v37 ⟨m1, m2⟩ => Tot.inl ?_
   have hw : w64 (tr + 1) = tr + 1 := w64_id (by omega) (by omega)
   simp only [hw]
   exact ⟨⟨⟨by omega, by omega⟩, ⟨by omega, by omega⟩, Ck.mono (c := v36.2) h36 (by omega)⟩, by omega⟩
  ·unfold spec_l1Cur_imGrid_k2
   refine Tot.bind (P := fun z : List Int × Int × Int × List Pt => (2 ≤ z.2.2.2.length ∧ z.2.2.2.length ≤ 12) ∧ Ck (B' + 145) (cur4 z)) ?_ fun z ⟨z1, zc⟩ => Tot.ret ⟨z1, zc.mono (by omega)⟩
   refine Tot.loop (fun x => ((x.2.2.2.1.length : Int) = x.2.2.2.2 ∧ x.2.2.2.2 ≤ (y.2.2.2.length : Int)) ∧ Ck (B' + 120 + 2 * x.2.2.2.1.length) (cur4 x)) (fun x => ((y.2.2.2.length : Int) - x.2.2.2.2).toNat) (fun x ⟨⟨xl, xh⟩, xc⟩ => ?_) _ ⟨⟨by simp, by simp⟩, Ck.mono (c := cur4 y) yc (by simp)⟩
   obtain ⟨c1, c2, c3, l, i⟩ := x
   simp only [cur4] at xl xh xc ⊢
   unfold spec_l1Cur_imGrid_b1
   refine Tot.ite (fun hi => ?_) (fun hi => Tot.inr ?_)
   ·have hi' : i < (y.2.2.2.length : Int) := of_decide_eq_true hi
    refine Tot.idx (by omega) hi' fun v10 _ => ?_
    refine (yac (by omega) xc a1 a2).bind fun v11 ⟨_, h11⟩ => ?_
    have hw : w64 (i + 1) = i + 1 := w64_id (by omega) (by omega)
    simp only [hw]
    exact Tot.guard (by simp; omega) (Tot.inl ⟨⟨⟨by simp; omega, by show i + 1 ≤ _; omega⟩, Ck.mono (c := v11.2) h11 (by simp; omega)⟩, by show (_ - (i + 1)).toNat < (_ - i).toNat; omega⟩)
   ·have hi' : ¬ i < (y.2.2.2.length : Int) := of_decide_eq_false hi
    exact ⟨⟨by show 2 ≤ l.length; omega, by show l.length ≤ 12; omega⟩, Ck.mono (c := (c1, c2, c3)) xc (by omega)⟩
 unfold spec_l1Cur_imGrid
 refine (among_ok hc (by omega) _ (by simp)).bind fun v1 ⟨m1, h1⟩ => ?_
 simp only [List.mem_cons, List.not_mem_nil, or_false] at m1
 refine (one_ok h1 (by omega) _).bind fun v38 h38 => ?_
 exact Tot.ite (fun _ => k1 _ _ (by omega : B + 2 + 2 + 250 ≤ B + 300) (by show (10 : Int) ≤ 10; omega) (by show (0 : Int) ≤ 10; omega) h38) (fun _ => k1 _ _ (by omega : B + 2 + 2 + 250 ≤ B + 300) (by show v1.1 ≤ 10; omega) (by show 0 ≤ v1.1; omega) h38)
theorem im_ok {B : Nat} (hB : B ≤ 100000) {c : Cur} (hc : Ck B c) : Tot (spec_l1Cur_im c) fun r => (2 ≤ r.1.length ∧ r.1.length ≤ 12) ∧ Ck (B + 320) r.2 := by
 unfold spec_l1Cur_im
 refine (among_ok hc (by omega) _ (by simp)).bind fun v1 ⟨m1, h1⟩ => ?_
 simp only [List.mem_cons, List.not_mem_nil, or_false] at m1
 refine (ymf (by omega) h1 (by omega) (by omega)).bind fun v2 ⟨l2, h2⟩ => ?_
 refine (one_ok h2 (by omega) _).bind fun v4 h4 => ?_
 unfold spec_l1Cur_im_k1
 refine Tot.ite (fun _ => ?_) (fun _ => Tot.ret ⟨l2, Ck.mono (c := v4.2) h4 (by omega)⟩)
 refine (among_ok h4 (by omega) _ (by simp)).bind fun v6 ⟨m6, h6⟩ => ?_
 simp only [List.mem_cons, List.not_mem_nil, or_false] at m6
 refine Tot.bind (P := fun y : List Pt => 2 ≤ y.length ∧ y.length ≤ 12) ?_ fun y ⟨y2, y12⟩ => ?_
 ·refine Tot.loop (fun x => (x.1.length : Int) = x.2 ∧ x.2 ≤ v6.1 + 1) (fun x => (v6.1 + 1 - x.2).toNat) (fun x ⟨xl, xh⟩ => ?_) _ ⟨by simp, by show (0 : Int) ≤ _; omega⟩
  obtain ⟨l, i⟩ := x
  simp only at xl xh ⊢
  unfold spec_l1Cur_im_b1
  refine Tot.ite (fun hi => ?_) (fun hi => Tot.inr ?_)
  ·have hi' : i ≤ v6.1 := of_decide_eq_true hi
   refine (make_tot (by omega) (by omega) (by omega) (by omega)).bind fun v15 _ => ?_
   refine (ync _).bind fun v16 _ => ?_
   have hw : w64 (i + 1) = i + 1 := w64_id (by omega) (by omega)
   simp only [hw]
   exact Tot.guard (by simp; omega) (Tot.inl ⟨⟨by simp; omega, by show i + 1 ≤ _; omega⟩, by show (_ - (i + 1)).toNat < (_ - i).toNat; omega⟩)
  ·have hi' : ¬ i ≤ v6.1 := of_decide_eq_false hi
   exact ⟨by show 2 ≤ l.length; omega, by show l.length ≤ 12; omega⟩
 ·unfold spec_l1Cur_im_k2 spec_l1Cur_im_k1
  refine (one_ok h6 (by omega) _).bind fun v8 h8 => ?_
  refine Tot.ite (fun _ => ?_) (fun _ => Tot.ret ⟨⟨y2, y12⟩, Ck.mono (c := v8.2) h8 (by omega)⟩)
  refine (yac (by omega) h8 (by omega) (by omega)).bind fun v10 ⟨_, h10⟩ => ?_
  exact Tot.idx (by omega) (by omega) fun v11 _ => Tot.ret ⟨by show 2 ≤ (y.set _ _).length ∧ (y.set _ _).length ≤ 12; rw [List.length_set]; exact ⟨y2, y12⟩, Ck.mono (c := v10.2) h10 (by omega)⟩
theorem anyIm_ok {B : Nat} (hB : B ≤ 100000) {c : Cur} (hc : Ck B c) : Tot (spec_l1Cur_anyIm c) fun r => r.1.length ≤ 13 ∧ Ck (B + 350) r.2 := by
 unfold spec_l1Cur_anyIm spec_l1Cur_anyIm_k1
 refine (im_ok hB hc).bind fun v1 ⟨⟨l2, l12⟩, h1⟩ => ?_
 refine (pick_ok h1 (by omega) _).bind fun v2 ⟨⟨p1, p2⟩, h2⟩ => ?_
 refine Tot.idx p1 (p2 (by omega)) fun v3 _ => ?_
 refine (pick_ok h2 (by omega) _).bind fun v5 ⟨_, h5⟩ => ?_
 refine Tot.ite (fun _ => ?_) (fun _ => Tot.ite (fun _ => ?_) (fun _ => Tot.ite (fun _ => ?_) (fun _ => Tot.ite (fun _ => ?_) (fun _ => Tot.ite (fun _ => ?_) (fun _ => Tot.ret ⟨by show v1.1.length ≤ 13; omega, Ck.mono (c := v5.2) h5 (by omega)⟩)))))
 ·exact (yte (by omega) h5).bind fun v7 h7 => Tot.ret ⟨by show (v1.1.set _ _).length ≤ 13; rw [List.length_set]; omega, Ck.mono (c := v7.2) h7 (by omega)⟩
 ·exact (yte (by omega) h5).bind fun v7 h7 => Tot.ret ⟨by show (v1.1.set _ _).length ≤ 13; rw [List.length_set]; omega, Ck.mono (c := v7.2) h7 (by omega)⟩
 ·refine (pick_ok h5 (by omega) _).bind fun v11 ⟨⟨q1, q2⟩, h11⟩ => ?_
  have q3 := q2 (by omega)
  exact (make_tot (by omega) (by omega) (by omega) (by omega)).bind fun v12 _ => Tot.ret ⟨by show (v1.1.set _ _).length ≤ 13; rw [List.length_set]; omega, Ck.mono (c := v11.2) h11 (by omega)⟩
 ·rw [w64_id (by omega) (by omega)]
  exact Tot.guard ⟨by omega, by omega⟩ (Tot.ret ⟨by show (v1.1.take _).length ≤ 13; rw [List.length_take]; omega, Ck.mono (c := v5.2) h5 (by omega)⟩)
 ·refine Tot.bind (P := fun y : List Int × Int × Int × List Pt => y.2.2.2.length ≤ 13 ∧ cur4 y = v5.2) ?_ fun y ⟨hy, hyc⟩ => Tot.ret ⟨hy, ?_⟩
  ·refine Tot.loop (fun x => x.length ≤ 13) (fun x => 13 - x.length) (fun x hx => ?_) _ (by simp)
   unfold spec_l1Cur_anyIm_b1
   refine Tot.ite (fun hk => ?_) (fun hk => Tot.inr ⟨hx, rfl⟩)
   have hk' : (x.length : Int) < 13 := of_decide_eq_true hk
   refine (make_tot (by omega) (by omega) (by omega) (by omega)).bind fun v19 _ => ?_
   refine (ync _).bind fun v20 _ => ?_
   exact Tot.guard (by simp; omega) (Tot.inl ⟨by simp; omega, by simp; omega⟩)
  ·show Ck _ (cur4 y)
   rw [hyc]; exact Ck.mono (c := v5.2) h5 (by omega)
theorem yne {B : Nat} (hB : B ≤ 10000) {c : Cur} (hc : Ck B c) : Tot (spec_l1Cur_strictMap c) fun r => r.1.length ≤ 13 ∧ Ck (B + 400) r.2 := by
 have k2 : ∀ (B' : Nat) (x6 : List Int × Int × Int × List Pt), B' + 10 ≤ B + 400 → x6.2.2.2.length ≤ 13 → Ck B' (cur4 x6) → Tot (spec_l1Cur_strictMap_k2 x6) fun r => r.1.length ≤ 13 ∧ Ck (B + 400) r.2 := by
  intro B' x6 hB' hl hc
  unfold spec_l1Cur_strictMap_k2
  refine (one_ok hc (by omega) _).bind fun v7 h7 => ?_
  refine Tot.ite (fun _ => ?_) (fun _ => Tot.ret ⟨hl, Ck.mono (c := v7.2) h7 (by omega)⟩)
  refine (pick_ok h7 (by omega) _).bind fun v9 ⟨⟨q1, q2⟩, h9⟩ => ?_
  have q3 := q2 (by omega)
  rw [w64_id (n := 1 + v9.1) (by omega) (by omega)]
  refine (make_tot (by omega) (by omega) (by omega) (by omega)).bind fun v10 _ => ?_
  refine (pick_ok h9 (by omega) _).bind fun v11 ⟨⟨q4, q5⟩, h11⟩ => ?_
  have q6 := q5 (by omega)
  rw [w64_id (n := 3 + v11.1) (by omega) (by omega)]
  refine (make_tot (by omega) (by omega) (by omega) (by omega)).bind fun v12 _ => ?_
  unfold spec_raInt
  simp only [Option.bind_some]
  exact Tot.ret ⟨by simp, Ck.mono (c := v11.2) h11 (by omega)⟩
 unfold spec_l1Cur_strictMap
 refine (one_ok hc (by omega) _).bind fun v1 h1 => ?_
 refine Tot.ite (fun _ => ?_) (fun _ => ?_)
 ·exact (anyIm_ok (by omega) h1).bind fun v3 ⟨a, b⟩ => Tot.ret ⟨a, b.mono (by omega)⟩
 ·refine (among_ok h1 (by omega) _ (by simp)).bind fun v4 ⟨m4, h4⟩ => ?_
  simp only [List.mem_cons, List.not_mem_nil, or_false] at m4
  refine Tot.bind (P := fun y : List Int × Int × Int × List Pt => y.2.2.2.length ≤ 13 ∧ Ck (B + 2 + 2 + 50) (cur4 y)) ?_ fun y ⟨hy, hyc⟩ => ?_
  ·refine Tot.loop (fun x => ((x.2.2.2.1.length : Int) = x.2.2.2.2 ∧ x.2.2.2.2 ≤ v4.1 + 1) ∧ Ck (B + 2 + 2 + 5 * x.2.2.2.1.length) (cur4 x)) (fun x => (v4.1 + 1 - x.2.2.2.2).toNat) (fun x ⟨⟨xl, xh⟩, xc⟩ => ?_) _ ⟨⟨by simp, by show (0 : Int) ≤ _; omega⟩, h4⟩
   obtain ⟨c1, c2, c3, l, i⟩ := x
   simp only [cur4] at xl xh xc ⊢
   have hw : w64 (i + 1) = i + 1 := w64_id (by omega) (by omega)
   have k3 : ∀ (v28 : Rt × Bool) (x30 : List Int × Int × Int × Int × Int), i ≤ v4.1 → Ck (B + 2 + 2 + 5 * l.length + 4) (x30.1, x30.2.1, x30.2.2.1) → Tot (spec_l1Cur_strictMap_k3 (c1, c2, c3, l, i) v28 x30) (Lp (fun x' : List Int × Int × Int × List Pt × Int => (((x'.2.2.2.1.length : Int) = x'.2.2.2.2 ∧ x'.2.2.2.2 ≤ v4.1 + 1) ∧ Ck (B + 2 + 2 + 5 * x'.2.2.2.1.length) (cur4 x')) ∧ (v4.1 + 1 - x'.2.2.2.2).toNat < (v4.1 + 1 - i).toNat) (fun y : List Int × Int × Int × List Pt => y.2.2.2.length ≤ 13 ∧ Ck (B + 2 + 2 + 50) (cur4 y))) := by
    intro v28 x30 hi hc
    unfold spec_l1Cur_strictMap_k3
    simp only [hw]
    exact Tot.guard (by simp; omega) (Tot.inl ⟨⟨⟨by simp; omega, by show i + 1 ≤ v4.1 + 1; omega⟩, Ck.mono (c := (x30.1, x30.2.1, x30.2.2.1)) hc (by simp; omega)⟩, by show (v4.1 + 1 - (i + 1)).toNat < _; omega⟩)
   unfold spec_l1Cur_strictMap_b2
   have ew : w64 ((l.length : Int) - 1) = (l.length : Int) - 1 := w64_id (by omega) (by omega)
   simp only [ew]
   refine Tot.ite (fun hi => ?_) (fun hi => Tot.inr ⟨?_, Ck.mono (c := (c1, c2, c3)) xc (by omega)⟩)
   ·have hi' : i ≤ v4.1 := of_decide_eq_true hi
    refine (make_tot (by omega) (by omega) (by omega) (by omega)).bind fun v28 _ => ?_
    refine (yac (by omega) xc (by omega) (by omega)).bind fun v29 ⟨_, h29⟩ => ?_
    refine Tot.bind (P := fun w : List Int × Int × Int × Bool => (w.2.2.2 = true → 0 < l.length) ∧ Ck (B + 2 + 2 + 5 * l.length + 4) (w.1, w.2.1, w.2.2.1)) ?_ fun w ⟨w1, w2⟩ => ?_
    ·refine Tot.ite (fun hk => ?_) (fun _ => Tot.ret ⟨fun h => (by cases h), Ck.mono (c := v29.2) h29 (by omega)⟩)
     have hk' : (l.length : Int) > 0 := of_decide_eq_true hk
     refine Tot.idx (by omega) (by omega) fun v32 _ => ?_
     refine Tot.ite (fun _ => ?_) (fun _ => Tot.ret ⟨fun h => (by cases h), Ck.mono (c := v29.2) h29 (by omega)⟩)
     exact (one_ok h29 (by omega) _).bind fun v33 h33 => Tot.ret ⟨fun _ => (by omega), Ck.mono (c := v33.2) h33 (by omega)⟩
    ·refine Tot.ite (fun hk => ?_) (fun _ => k3 _ _ hi' w2)
     have := w1 hk
     unfold spec_imMirror
     rw [Option.bind_some]
     refine Tot.idx (by omega) (by omega) fun v37 _ => ?_
     refine Tot.ite (fun _ => ?_) (fun _ => k3 _ _ hi' w2)
     exact (ync _).bind fun v39 _ => k3 _ _ hi' w2
   ·have hi' : ¬ i ≤ v4.1 := of_decide_eq_false hi
    show l.length ≤ 13
    omega
  ·unfold spec_l1Cur_strictMap_k1
   refine (one_ok hyc (by omega) _).bind fun v17 h17 => ?_
   refine Tot.ite (fun _ => ?_) (fun _ => k2 _ _ (by omega : B + 2 + 2 + 50 + 2 + 10 ≤ B + 400) hy h17)
   refine Tot.bind (P := fun z : List Int × Int × Int × List Pt => z.2.2.2.length ≤ 13 ∧ cur4 z = v17.2) ?_ fun z ⟨hz, hzc⟩ => k2 (B + 2 + 2 + 50 + 2) z (by omega) hz (by rw [hzc]; exact h17)
   refine Tot.loop (fun x => (x.1.length : Int) = x.2 ∧ x.2 ≤ 12) (fun x => (12 - x.2).toNat) (fun x ⟨xl, xh⟩ => ?_) _ ⟨by simp, by simp⟩
   obtain ⟨l, i⟩ := x
   simp only at xl xh ⊢
   unfold spec_l1Cur_strictMap_b1
   refine Tot.ite (fun hi => ?_) (fun hi => Tot.inr ⟨by show l.length ≤ 13; omega, rfl⟩)
   have hi' : i < 12 := of_decide_eq_true hi
   refine (make_tot (by omega) (by omega) (by omega) (by omega)).bind fun v22 _ => ?_
   refine (ync _).bind fun v23 _ => ?_
   have hw : w64 (i + 1) = i + 1 := w64_id (by omega) (by omega)
   simp only [hw]
   exact Tot.guard (by simp; omega) (Tot.inl ⟨⟨by simp; omega, by show i + 1 ≤ _; omega⟩, by show (_ - (i + 1)).toNat < (_ - i).toNat; omega⟩)
theorem ycf {B : Nat} (hB : B ≤ 100000) {c : Cur} (hc : Ck B c) : Tot (spec_l1Cur_iterate c) fun r => (-1 ≤ r.1 ∧ r.1 ≤ 13) ∧ Ck (B + 4) r.2 := by
 unfold spec_l1Cur_iterate
 refine (among_ok hc (by omega) _ (by simp)).bind fun v1 ⟨m1, h1⟩ => ?_
 refine (among_ok h1 (by omega) _ (by simp)).bind fun v2 ⟨m2, h2⟩ => Tot.ret ⟨?_, h2⟩
 simp only [List.mem_cons, List.not_mem_nil, or_false] at m1 m2
 omega
theorem yhb {l : List Int} (h : Bytes l) : Tot (spec_DrawLapNumber l) fun r => r.1.length ≤ 13 ∧ -1 ≤ r.2 ∧ r.2 ≤ 13 := by
 unfold spec_DrawLapNumber
 refine (yne (by omega) (ck0 h)).bind fun v1 ⟨l1, h1⟩ => ?_
 exact (ycf (by omega) h1).bind fun v2 ⟨a, _⟩ => Tot.ret ⟨l1, a⟩
theorem ysc {l : List Int} (h : Bytes l) : Tot (spec_DrawLapGrowth l) fun r => r.1.length ≤ 13 ∧ -1 ≤ r.2 ∧ r.2 ≤ 13 := by
 unfold spec_DrawLapGrowth
 exact (yhb h).bind fun v hv => Tot.ret hv
theorem yeb {l : List Int} (h : Bytes l) : Tot (spec_DrawHighestAndLowest l) fun r => r.1.length ≤ 13 ∧ -1 ≤ r.2 ∧ r.2 ≤ 13 := by
 unfold spec_DrawHighestAndLowest
 exact (yhb h).bind fun v hv => Tot.ret hv
end Go.PV

/-
 Plain law: the product of a graph and a vector.
 Conditions: none.
-/
set_option linter.all false
namespace Go.PV
end Go.PV

/-
 Plain law: more steps give bounds that are no worse.
 Conditions: none.
-/
set_option linter.all false
namespace Go.PV
section
variable {n : Nat} {G : Nat → Nat → Int}
def lbd (G : Nat → Nat → Int) (n : Nat) (p q : Int) (v : Nat → Int) : Prop := ∀ i, i < n → p * v i ≤ q * dotN (G i) v n
def ubd (G : Nat → Nat → Int) (n : Nat) (p q : Int) (v : Nat → Int) : Prop := ∀ i, i < n → q * dotN (G i) v n ≤ p * v i
theorem less_ge {a b c : Int × Int} (ha : 0 < a.2) (hb : 0 < b.2) (hc : 0 < c.2) (h1 : less a b = false) (h2 : less b c = false) : less a c = false := by
 rw [yca ha hb] at h1
 rw [yca hb hc] at h2
 rw [yca ha hc]
 exact Rat.le_trans h2 h1
theorem rat_pos {a : Int × Int} (h : isRat a = true) : 0 < a.2 := by have := (isRat_iff.1 h).1; omega
theorem mn_all {r : Nat → Int × Int} : ∀ k, (∀ i, i < k → isRat (r i) = true) → isRat (r 0) = true → ∀ i, i < k → less (r i) (mnN r k) = false ∧ less (mxN r k) (r i) = false
 | 0, _, _, i, hi => by omega
 | k + 1, h, h0, i, hi => by
  have hk := mn_rat h0 (fun i hi => h i hi) k (by omega)
  have hk' := mn_rat h0 (fun i hi => h i hi) (k + 1) (by omega)
  have hm : less (mnN r k) (mnN r (k + 1)) = false ∧ less (r k) (mnN r (k + 1)) = false := by
   rw [mnN_succ]; unfold minStep
   split
   ·rename_i hl; exact ⟨less_not hl, yib _⟩
   ·rename_i hl; exact ⟨yib _, by simpa using hl⟩
  have hx : less (mxN r (k + 1)) (mxN r k) = false ∧ less (mxN r (k + 1)) (r k) = false := by
   rw [mxN_succ]; unfold maxStep
   split
   ·rename_i hl; exact ⟨less_not hl, yib _⟩
   ·rename_i hl; exact ⟨yib _, by simpa using hl⟩
  by_cases hik : i = k
  ·subst hik; exact ⟨hm.2, hx.2⟩
  ·have ih := mn_all k (fun i hi => h i (by omega)) h0 i (by omega)
   have hi' := rat_pos (h i hi)
   exact ⟨less_ge hi' (rat_pos hk.1) (rat_pos hk'.1) ih.1 hm.1, less_ge (rat_pos hk'.2) (rat_pos hk.2) hi' hx.1 ih.2⟩
section
variable {v : Nat → Int}
end
end
end Go.PV

/-
 Plain laws: FnLaps.
 Conditions: none.
-/
set_option linter.all false
namespace Go.PV
theorem yfc (xs : List Int) (hl : xs.length ≤ 4611686018427387904) : laws_sameInts xs xs = some true := by
 have hx := loop_idx (body := laws_sameInts_b1 xs xs) xs.length (fun i => (i : Int)) (.inr ()) (fun i hi => by
  simp only [laws_sameInts_b1, show ((i : Int) < (xs.length : Int)) from by omega, decide_true, if_true, idxO_lt hi, Option.bind_some, bne_self_eq_false, Bool.false_eq_true, if_false, w64_nat (show i < 9223372036854775807 by omega)]) (by simp [laws_sameInts_b1])
 unfold laws_sameInts
 rw [if_neg (by simp), show (0 : Int) = ((0 : Nat) : Int) from rfl, hx]
 rfl
theorem ybb (xs : List Rt) (hl : xs.length ≤ 4611686018427387904) : laws_pSameRats xs xs = some true := by
 have hx := loop_idx (body := laws_pSameRats_b1 xs xs) xs.length (fun i => (i : Int)) (.inr ()) (fun i hi => by
  simp only [laws_pSameRats_b1, show ((i : Int) < (xs.length : Int)) from by omega, decide_true, if_true, idxO_lt hi, Option.bind_some, beq_self_eq_true, Bool.and_self, Bool.not_true, Bool.false_eq_true, if_false, w64_nat (show i < 9223372036854775807 by omega)]) (by simp [laws_pSameRats_b1])
 unfold laws_pSameRats
 rw [if_neg (by simp), show (0 : Int) = ((0 : Nat) : Int) from rfl, hx]
 rfl
theorem pLess_eq {a b : Rt} (ha : isRat a = true) (hb : isRat b = true) : laws_pLess a b = some (less a b) := by
 obtain ⟨a1, a2, a3, a4⟩ := tame_of ha
 obtain ⟨b1, b2, b3, b4⟩ := tame_of hb
 have m1 := mul_le_9 a1 a2 b3 b4
 have m2 := mul_le_9 b1 b2 a3 a4
 unfold laws_pLess less
 rw [w64_id (n := a.1 * b.2) (by omega) (by omega), w64_id (n := b.1 * a.2) (by omega) (by omega)]
theorem way_grow {cuts : List Rt} {e : Nat → Rt} : ∀ k, k + 1 ≤ (wayN cuts e k).length ∧ (wayN cuts e k).length ≤ (cuts.length + 1) * k + 1
 | 0 => by simp [wayN]
 | k + 1 => by
  have ih := way_grow (cuts := cuts) (e := e) k
  have := btw_len cuts (e k) (e (k + 1))
  have e1 : (cuts.length + 1) * (k + 1) = (cuts.length + 1) * k + (cuts.length + 1) := Nat.mul_succ ..
  simp only [wayN, List.length_append, List.length_singleton]
  omega
theorem lbN_val (c : Int) : ∀ k o, (lbN c k o).2 = true → (lbN c k o).1 = o * c ^ k
 | 0, o, _ => by simp [lbN]
 | k + 1, o, h => by
  unfold lbN at h ⊢
  by_cases hb : o * c > 1000000000
  ·rw [if_pos hb] at h; cases h
  ·rw [if_neg hb] at h ⊢
   rw [lbN_val c k _ h, Int.pow_succ]
   rw [Int.mul_assoc, Int.mul_comm c]
section
variable {n : Nat} {p : Nat → Pt}
theorem it_grow (h : Curve n p) (hy : ∀ i, i < n → coord (p i).2 = true) {cuts : List Rt} (hcr : ∀ x ∈ cuts, isUnit x = true) (hcl : cuts.length ≤ 12) {k : Nat} {l l' : List Rt} (h1 : itO n p cuts k = some l) (h2 : itO n p cuts (k + 1) = some l') : l.length ≤ l'.length ∧ l'.length ≤ (cuts.length + 1) * (l.length - 1) + 1 := by
 have E := it_ends h hy hcr hcl h1
 have := E.lo
 obtain ⟨l0, e1, e2⟩ := Option.bind_eq_some_iff.1 h2
 rw [h1] at e1
 obtain rfl := Option.some.inj e1
 unfold nextO at e2
 split at e2
 ·have hl := ymc _ _ _ e2
  have hw := way_grow (cuts := cuts) (e := fun i => l.getD i default) (l.length - 1)
  simp only [List.length_nil, Nat.zero_add] at hl
  omega
 ·cases e2
theorem it_pow (h : Curve n p) (hy : ∀ i, i < n → coord (p i).2 = true) {cuts : List Rt} (hcr : ∀ x ∈ cuts, isUnit x = true) (hcl : cuts.length ≤ 12) : ∀ {k : Nat} {l : List Rt}, itO n p cuts k = some l → l.length ≤ (cuts.length + 1) ^ k + 1
 | 0, l, e => by
  obtain rfl := Option.some.inj e
  simp
 | k + 1, l, e => by
  obtain ⟨l0, e1, e2⟩ := Option.bind_eq_some_iff.1 e
  have ih := it_pow h hy hcr hcl e1
  have hg := (it_grow h hy hcr hcl e1 e).2
  have : (cuts.length + 1) * (l0.length - 1) ≤ (cuts.length + 1) * (cuts.length + 1) ^ k := Nat.mul_le_mul_left _ (by omega)
  rw [Nat.pow_succ, Nat.mul_comm ((cuts.length + 1) ^ k)]
  omega
theorem it_some {cuts : List Rt} {k m : Nat} {l : List Rt} (h : itO n p cuts m = some l) (hk : k ≤ m) : itO n p cuts k = some (itL n p cuts k) := by
 cases hq : itO n p cuts k with
 | none => rw [itO_none hq hk] at h; cases h
 | some y => rw [itL_of hq]
theorem yoe (hm : isMapT n p) (h4 : 2 ≤ n) (h5 : n ≤ 12) {k : Nat} (hk : k ≤ 12) : spec_LapBound (tab n p) (k : Int) = some (lbN ((lapsT n p).length : Int) k 1) ∧ impl_LapBound (tab n p) (k : Int) = some (lbN ((lapsT n p).length : Int) k 1) := by
 have hin : inB 0 12 (k : Int) = true := inB_iff.2 ⟨by omega, by omega⟩
 have hlen := ylc (n := n) (p := p) h4
 have h6 : ((lapsT n p).map encT).length ≤ 12 := by rw [List.length_map]; omega
 have e : spec_LapBound (tab n p) (k : Int) = some (lbN ((lapsT n p).length : Int) k 1) := by
  obtain ⟨c, h1, h2, h3⟩ := ypc (tab n p) (by rw [tab_len]; omega)
  obtain ⟨c', h1', h3'⟩ := ymb n p h4 h5
  have hc' : c' = true := h3'.2 hm
  unfold spec_LapBound
  rw [h1', hc']
  simp only [Option.bind_some, Bool.not_true, Bool.false_eq_true, if_false, yka, hin]
  have := spec_lb (tab n p) _ (yqa hm h4 h5) h6 k 1 (by omega) (by omega) (by omega)
  rw [List.length_map] at this
  exact this
 obtain ⟨r, e1, e2⟩ := yde (tab n p) (k : Int) (by rw [tab_len]; omega)
 exact ⟨e, by rw [e2, ← e1, e]⟩
end
structure LapNo (f : List Pt) (m : Int) : Prop where
 gr : spec_LapGrowth f m = some ([], false) ∧ impl_LapGrowth f m = some ([], false)
 nu : spec_LapNumber f m = some (0, false) ∧ impl_LapNumber f m = some (0, false)
 en : spec_EndValues f m = some ([], false) ∧ impl_EndValues f m = some ([], false)
 va : spec_VariationOfIterate f m = some ((0, 0), false) ∧ impl_VariationOfIterate f m = some ((0, 0), false)
 hl : spec_HighestAndLowest f m = some ((0, 0), (0, 0), false) ∧ impl_HighestAndLowest f m = some ((0, 0), (0, 0), false)
noncomputable def grT (n : Nat) (p : Nat → Pt) (k : Nat) : Int := w64 (((itL n p (cutsT n p) k).length : Int) - 1)
structure LapYes (f : List Pt) (m : Int) (n : Nat) (p : Nat → Pt) (N : Nat) (l : List Rt) : Prop where
 ff : f = tab n p
 lo : 2 ≤ n
 hi : n ≤ 12
 mm : m = ((N : Nat) : Int)
 NN : N ≤ 12
 map : isMapT n p
 cur : Curve n p
 y : ∀ i, i < n → coord (p i).2 = true
 cr : ∀ x ∈ cutsT n p, isUnit x = true
 cl : (cutsT n p).length ≤ 12
 laps : (cutsT n p).length + 1 = (lapsT n p).length
 ways : Ways n p
 it : itO n p (cutsT n p) N = some l
 st : impl_IsStrict f = some (true, true)
 gr : spec_LapGrowth f m = some (tab (N + 1) (grT n p), true) ∧ impl_LapGrowth f m = some (tab (N + 1) (grT n p), true)
 nu : spec_LapNumber f m = some (w64 ((l.length : Int) - 1), true) ∧ impl_LapNumber f m = some (w64 ((l.length : Int) - 1), true)
 en : spec_EndValues f m = some (l, true) ∧ impl_EndValues f m = some (l, true)
 va : ∃ r, spec_VariationOfIterate f m = some r ∧ impl_VariationOfIterate f m = some r
 hl : spec_HighestAndLowest f m = some (mxN (fun i => l.getD i default) l.length, mnN (fun i => l.getD i default) l.length, true) ∧ impl_HighestAndLowest f m = some (mxN (fun i => l.getD i default) l.length, mnN (fun i => l.getD i default) l.length, true)
theorem both_eq {α : Type} {a b : Option α} {x : α} (h : ∃ r, a = some r ∧ b = some r) (e : a = some x) : a = some x ∧ b = some x := by
 obtain ⟨r, h1, h2⟩ := h
 exact ⟨e, by rw [h2, ← h1, e]⟩
theorem both_gr (f : List Pt) (m : Int) (hl : f.length ≤ 4611686018427387904) : ∃ r, spec_LapGrowth f m = some r ∧ impl_LapGrowth f m = some r := by
 obtain ⟨r, _, h1, h2⟩ := yqd f m hl
 exact ⟨r, h1, h2⟩
theorem both_en (f : List Pt) (m : Int) (hl : f.length ≤ 4611686018427387904) : ∃ r, spec_EndValues f m = some r ∧ impl_EndValues f m = some r := by
 obtain ⟨r, ok, _, h1, h2⟩ := yrd f m hl
 exact ⟨(r, ok), h1, h2⟩
theorem both_eq' {α : Type} {a b : Option α} {x : α} (h : ∃ r, a = some r ∧ b = some r) (e : b = some x) : a = some x ∧ b = some x := by
 obtain ⟨r, h1, h2⟩ := h
 exact ⟨by rw [h1, ← h2, e], e⟩
theorem yue {f : List Pt} {m : Int} (h : impl_iterated f m = some ([], false)) : impl_LapGrowth f m = some ([], false) := by
 unfold impl_LapGrowth
 rw [h, Option.bind_some, loopO_eq]
 simp [impl_LapGrowth_b1, impl_LapGrowth_k1]
theorem yve (f : List Pt) (m : Int) (hl : f.length ≤ 4611686018427387904) : LapNo f m ∨ ∃ n p N l, LapYes f m n p N l := by
 rcases yma f m hl with ⟨h1, h2⟩ | ⟨n, p, cuts, N, e, h2, hn, hm, em, hN, h6, h7, h8, h9, ht, hask, h1, h3⟩
 ·left
  exact ⟨both_eq' (both_gr f m hl) (yue h2), both_eq (yab f m hl) (by unfold spec_LapNumber; rw [h1]; rfl), both_eq (both_en f m hl) (by unfold spec_EndValues; rw [h1]; rfl), both_eq (yha f m hl) (by unfold spec_VariationOfIterate; rw [h1]; rfl), both_eq (yja f m hl) (by unfold spec_HighestAndLowest; rw [h1]; rfl)⟩
 ·cases h : itO n p cuts N with
  | none =>
   left
   rw [h] at h1 h3
   exact ⟨both_eq' (both_gr f m hl) (yue h3), both_eq (yab f m hl) (by unfold spec_LapNumber; rw [hask, h1]; rfl), both_eq (both_en f m hl) (by unfold spec_EndValues; rw [hask, h1]; rfl), both_eq (yha f m hl) (by unfold spec_VariationOfIterate; rw [hask, h1]; rfl), both_eq (yja f m hl) (by unfold spec_HighestAndLowest; rw [hask, h1]; rfl)⟩
  | some l =>
   right
   subst e em
   obtain ⟨rfl, hlaps⟩ := cuts_val hm h2 hn ht
   have hb := h
   rw [h] at h1 h3
   have E := it_ends h6 h7 h8 h9 h
   have hlo := E.lo
   have hhi := E.hi
   have ur : ∀ i, i < l.length → isRat (l.getD i default) = true := fun i hi => unit_rat (E.at hi)
   -- strict
   obtain ⟨c, b, s1, s2, s3, s4⟩ := yed (tab n p) hl
   have hc : c = true := by
    cases c
    ·unfold spec_lpAsked at hask; rw [s1] at hask; simp at hask
    ·rfl
   subst hc
   obtain ⟨s5, _⟩ := s4 rfl
   have hb' : b = true := by
    cases b
    ·unfold spec_lpAsked at hask; rw [s1] at hask; simp [s5] at hask
    ·rfl
   subst hb'
   have hst : strictB n p = true := by
    have := ydb hm h2 hn
    rw [s5] at this
    exact (Option.some.inj this).symm
   have hx := loop_idx (body := impl_LapGrowth_b1 (tab (N + 1) (itL n p (cutsT n p)), true)) (N + 1) (fun i => (tab i (grT n p), (i : Int))) (tab (N + 1) (grT n p)) (fun i hi => by
    simp only [impl_LapGrowth_b1, tab_len, show ((i : Int) < ((N + 1 : Nat) : Int)) from by omega, decide_true, if_true, idxO_tab hi, Option.bind_some]
    rw [guardO_bind_pos (by simp; omega), w64_nat (show i < 9223372036854775807 by omega)]
    have := tab_succ i (grT n p)
    rw [← this]; rfl) (by
    simp only [impl_LapGrowth_b1, tab_len, Int.lt_irrefl, decide_false, Bool.false_eq_true, if_false])
   have hx' : loopO (impl_LapGrowth_b1 (tab (N + 1) (itL n p (cutsT n p)), true)) ([], 0) = some (tab (N + 1) (grT n p)) := hx
   refine ⟨n, p, N, l, rfl, h2, hn, rfl, hN, hm, h6, h7, h8, h9, hlaps, ways_of h6 hst, h, ?_, both_eq' (both_gr _ _ hl) ?_, both_eq (yab _ _ hl) ?_, both_eq (both_en _ _ hl) ?_, yha _ _ hl, both_eq' (yja _ _ hl) ?_⟩
   ·unfold impl_IsStrict
    rw [s2, s3]; rfl
   ·unfold impl_LapGrowth
    rw [h3, Option.bind_some, hx']
    rfl
   ·unfold spec_LapNumber; rw [hask, h1]; rfl
   ·unfold spec_EndValues; rw [hask, h1]; rfl
   ·unfold impl_HighestAndLowest
    rw [h3]
    simp only [Option.bind_some, Bool.not_true, Bool.false_eq_true, if_false, idxO_tab (show N < N + 1 by omega), itL_of h]
    have a := yce (n := l.length) (r := fun i => l.getD i default) (by omega) (by omega) ur
    have b := ybe (n := l.length) (r := fun i => l.getD i default) (by omega) (by omega) ur
    rw [← tab_self l] at a b
    rw [a, b]
    rfl
theorem laps_k1 (a1 : List Int) (h1 : Bytes a1) : laws_FnLaps_k1 a1 () = some true := by
 unfold laws_FnLaps_k1
 obtain ⟨v, e, hv, _⟩ := yeb h1
 rw [e, Option.bind_some]
 rcases yve v.1 v.2 (by omega) with h | ⟨n, p, N, l, h⟩
 ·rw [h.hl.1, h.hl.2]
  rfl
 ·have E := it_ends h.cur h.y h.cr h.cl h.it
  have hlo := E.lo
  have hhi := E.hi
  have ur : ∀ i, i < l.length → isRat (l.getD i default) = true := fun i hi => unit_rat (E.at hi)
  have br := mn_rat (ur 0 (by omega)) ur l.length (Nat.le_refl _)
  have hall := mn_all l.length ur (ur 0 (by omega))
  rw [h.hl.1, h.hl.2, h.en.1, h.en.2]
  simp only [Option.bind_some, beq_self_eq_true, Bool.not_true, Bool.and_self, Bool.or_self, Bool.false_eq_true, if_false, if_true, ybb l (by omega)]
  have hx : loopO (laws_FnLaps_b1 (mxN (fun i => l.getD i default) l.length, mnN (fun i => l.getD i default) l.length, true) (l, true)) 0 = some (.inr ()) := by
   refine loop_idx (body := laws_FnLaps_b1 (mxN (fun i => l.getD i default) l.length, mnN (fun i => l.getD i default) l.length, true) (l, true)) l.length (fun i => (i : Int)) (.inr ()) (fun i hi => ?_) (by simp [laws_FnLaps_b1])
   have g : idxO l (i : Int) = some (l.getD i default) := by rw [idxO_lt hi]; simp [hi]
   simp only [laws_FnLaps_b1, show ((i : Int) < (l.length : Int)) from by omega, decide_true, if_true, g, Option.bind_some, pLess_eq br.2 (ur i hi), pLess_eq (ur i hi) br.1, (hall i hi).1, (hall i hi).2, Bool.false_eq_true, if_false, w64_nat (show i < 9223372036854775807 by omega)]
  rw [hx]
  rfl
theorem laps_k3 (a1 : List Int) (h1 : Bytes a1) {n : Nat} {p : Nat → Pt} {N : Nat} {f : List Pt} {m : Int} {l : List Rt} (h : LapYes f m n p N l) : laws_FnLaps_k3 a1 (l, true) () = some true := by
 have E := it_ends h.cur h.y h.cr h.cl h.it
 have hlo := E.lo
 have hhi := E.hi
 have ur : ∀ i, i < l.length → isRat (l.getD i default) = true := fun i hi => unit_rat (E.at hi)
 obtain ⟨x1, x2⟩ := it_alt h.cur h.y h.ways h.cr h.cl h.it
 have hg : ∀ i, i < l.length → idxO l (i : Int) = some (l.getD i default) := fun i hi => by rw [idxO_lt hi]; simp [hi]
 unfold laws_FnLaps_k3
 have hx : loopO (laws_FnLaps_b2 (l, true)) 1 = some (.inr ()) := by
  refine loop_idx (body := laws_FnLaps_b2 (l, true)) (l.length - 1) (fun i => ((i + 1 : Nat) : Int)) (.inr ()) (fun i hi => ?_) (by
   simp only [laws_FnLaps_b2]
   rw [if_neg (by simp; omega)])
  have w1 : w64 (((i + 1 : Nat) : Int) - 1) = ((i : Nat) : Int) := by rw [w64_id (by omega) (by omega)]; omega
  have hne := x1 i (by omega)
  have c1 : ((l.getD (i + 1) default).1 == (l.getD i default).1 && (l.getD (i + 1) default).2 == (l.getD i default).2) = false := by
   cases hc : ((l.getD (i + 1) default).1 == (l.getD i default).1 && (l.getD (i + 1) default).2 == (l.getD i default).2)
   ·rfl
   ·simp only [Bool.and_eq_true, beq_iff_eq] at hc
    exact absurd (congrArg val (Prod.ext hc.1 hc.2)).symm hne
  simp only [laws_FnLaps_b2, show (((i + 1 : Nat) : Int) < (l.length : Int)) from by omega, decide_true, if_true, hg (i + 1) (by omega), w1, hg i (by omega), Option.bind_some, c1, Bool.false_eq_true, if_false]
  cases i with
  | zero =>
   rfl
  | succ i =>
   have w2 : w64 (((i + 1 + 1 : Nat) : Int) - 2) = ((i : Nat) : Int) := by rw [w64_id (by omega) (by omega)]; omega
   have r0 := ur i (by omega)
   have r1 := ur (i + 1) (by omega)
   have r2 := ur (i + 1 + 1) (by omega)
   have ht := x2 i (by omega)
   have hneq : (less (l.getD i default) (l.getD (i + 1) default) == less (l.getD (i + 1) default) (l.getD (i + 1 + 1) default)) = false := by
    rcases ht with ⟨t1, t2⟩ | ⟨t1, t2⟩
    ·rw [(less_val (rt_pos r1) (rt_pos r2)).2 t2, (yca (rt_pos r0) (rt_pos r1)).2 (by grind)]; rfl
    ·rw [(less_val (rt_pos r0) (rt_pos r1)).2 t1, (yca (rt_pos r1) (rt_pos r2)).2 (by grind)]; rfl
   simp only [show (((i + 1 + 1 : Nat) : Int) > 1) from by omega, decide_true, if_true, w2, hg i (by omega), Option.bind_some, pLess_eq r0 r1, pLess_eq r1 r2, hneq, Bool.false_eq_true, if_false, w64_nat (show i + 1 + 1 < 9223372036854775807 by omega)]
 rw [hx]
 exact laps_k1 a1 h1
theorem laws_FnLaps_eq (a0 a1 : List Int) (h0 : Bytes a0) (h1 : Bytes a1) : laws_FnLaps a0 a1 = some true := by
 unfold laws_FnLaps laws_big
 rw [Option.bind_some]
 by_cases hbig : (decide ((a0.length : Int) > 1048576) || decide ((a1.length : Int) > w64 (1048576 - (a0.length : Int)))) = true
 ·rw [if_pos hbig]
 rw [if_neg hbig]
 obtain ⟨v, e, hv, _⟩ := ysc h0
 rw [e, Option.bind_some]
 rcases yve v.1 v.2 (by omega) with h | ⟨n, p, N, l, h⟩
 ·rw [h.gr.1, h.gr.2, h.nu.1, h.nu.2, h.en.1, h.en.2, h.va.1, h.va.2]
  simp only [Option.bind_some, beq_self_eq_true, Bool.not_true, Bool.and_self, Bool.false_eq_true, if_false, bne_self_eq_false, yfc [] (by simp), ybb [] (by simp)]
  exact laps_k1 a1 h1
 ·obtain ⟨r, va1, va2⟩ := h.va
  have E := it_ends h.cur h.y h.cr h.cl h.it
  have hlo := E.lo
  have hhi := E.hi
  have hN := h.NN
  have g0 : grT n p 0 = 1 := rfl
  have gN : grT n p N = w64 ((l.length : Int) - 1) := by unfold grT; rw [itL_of h.it]
  have wl : w64 ((l.length : Int) - 1) = (l.length : Int) - 1 := w64_id (by omega) (by omega)
  have wl1 : w64 ((l.length : Int) - 1 + 1) = (l.length : Int) := by rw [w64_id (by omega) (by omega)]; omega
  have wN : w64 (v.2 + 1) = ((N + 1 : Nat) : Int) := by rw [h.mm]; exact w64_nat (by omega)
  rw [h.gr.1, h.gr.2, h.nu.1, h.nu.2, h.en.1, h.en.2, va1, va2]
  have hloop : loopO (laws_FnLaps_b3 v (tab (N + 1) (grT n p), true)) 1 = some (.inr ()) := by
   refine loop_idx (body := laws_FnLaps_b3 v (tab (N + 1) (grT n p), true)) N (fun i => ((i + 1 : Nat) : Int)) (.inr ()) (fun i hi => ?_) (by
    simp only [laws_FnLaps_b3]
    rw [if_neg (by rw [h.mm]; simp; omega)])
   have w1 : w64 (((i + 1 : Nat) : Int) - 1) = ((i : Nat) : Int) := by rw [w64_id (by omega) (by omega)]; omega
   have q1 := it_some h.it (show i ≤ N by omega)
   have q2 := it_some h.it (show i + 1 ≤ N by omega)
   have E1 := it_ends h.cur h.y h.cr h.cl q1
   have E2 := it_ends h.cur h.y h.cr h.cl q2
   have hg := it_grow h.cur h.y h.cr h.cl q1 q2
   have hp := it_pow h.cur h.y h.cr h.cl q2
   have a1 := E1.lo
   have a2 := E1.hi
   have a3 := E2.lo
   have a4 := E2.hi
   have e1 : grT n p i = ((itL n p (cutsT n p) i).length : Int) - 1 := w64_id (by omega) (by omega)
   have e2 : grT n p (i + 1) = ((itL n p (cutsT n p) (i + 1)).length : Int) - 1 := w64_id (by omega) (by omega)
   obtain ⟨b1, b2⟩ := yoe h.map h.lo h.hi (show i + 1 ≤ 12 by omega)
   have c1 : decide (grT n p (i + 1) < grT n p i) = false := decide_eq_false (by rw [e1, e2]; omega)
   have c2 : ((lbN ((lapsT n p).length : Int) (i + 1) 1).2 && decide (grT n p (i + 1) > (lbN ((lapsT n p).length : Int) (i + 1) 1).1)) = false := by
    cases hk : (lbN ((lapsT n p).length : Int) (i + 1) 1).2
    ·rfl
    ·rw [Bool.true_and]
     refine decide_eq_false ?_
     rw [lbN_val _ _ _ hk, e2, ← h.laps, Int.one_mul]
     have : (((cutsT n p).length + 1 : Nat) : Int) ^ (i + 1) = ((((cutsT n p).length + 1) ^ (i + 1) : Nat) : Int) := by rw [Int.natCast_pow]
     rw [this]
     omega
   simp only [laws_FnLaps_b3]
   rw [if_pos (by rw [h.mm]; simp; omega), w1, idxO_tab (show i + 1 < N + 1 by omega), idxO_tab (show i < N + 1 by omega), h.ff, b1, b2]
   simp only [Option.bind_some, c1, Bool.false_eq_true, if_false, beq_self_eq_true, Bool.not_true, bne_self_eq_false, Bool.false_or, c2, w64_nat (show i + 1 < 9223372036854775807 by omega)]
  have hvN : idxO (tab (N + 1) (grT n p)) v.2 = some (grT n p N) := by rw [h.mm]; exact idxO_tab (by omega)
  have hr : (if r.2 = true then some (!true) else some false : Option Bool) = some false := by cases r.2 <;> rfl
  simp only [Option.bind_some, beq_self_eq_true, Bool.not_true, Bool.and_self, Bool.false_eq_true, if_false, if_true, bne_self_eq_false, yfc (tab (N + 1) (grT n p)) (by rw [tab_len]; omega), ybb l (by omega), ite_self, h.st, tab_len, wN, yjd (show 0 < N + 1 by omega), g0, hvN, gN, wl, wl1, hloop]
  exact laps_k3 a1 h1 h
end Go.PV

/-
 What comes in as bytes is bytes.
 Conditions: none.
-/
set_option linter.all false
namespace Go.PV
theorem bytes_of {l : List Int} (h : (Ty.sl (.int .u8)).ok l) : Bytes l := by
 refine ⟨Nat.le_trans h.1 (by decide), fun b hb => ?_⟩
 have h2 : (Lit.int .u8 b).wf = true := h.2 b hb
 simp only [Lit.wf, Bool.and_eq_true, decide_eq_true_eq] at h2
 have e1 : IntKind.u8.min = 0 := by decide
 have e2 : IntKind.u8.max = 255 := by decide
 omega
end Go.PV
