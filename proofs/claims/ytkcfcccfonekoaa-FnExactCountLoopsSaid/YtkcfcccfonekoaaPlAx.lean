/-
  Plain laws of what the functions answer.
  Conditions: none.
-/
import Derived.KernelRfl
import Derived.Test.YtkcfcccfonekoaaPvCx
import Derived.Test.YtkcfcccfonekoaaDf
set_option linter.all false
/-
 Plain laws: bounds, lists of numbers, vectors.
 Conditions: none.
-/
namespace Go.PV
def inB (a b n : Int) : Bool := decide (a ≤ n) && decide (n ≤ b)
theorem inB_iff {a b n : Int} : inB a b n = true ↔ a ≤ n ∧ n ≤ b := by simp [inB]
theorem yna (v a b : Int) : spec_l1In v a b = some (inB a b v) := rfl
theorem yla (v a b : Int) : impl_within v a b = some (inB a b v) := rfl
def isVec (xs : List Int) : Bool := inB 1 8 xs.length && xs.all (inB 1 1000000)
theorem set_at {α : Type} (xs ys : List α) (i : Nat) (x : α) (hi : xs[i]? = some x) (hl : i < ys.length) : (xs.take i ++ ys.drop i).set i x = xs.take (i + 1) ++ ys.drop (i + 1) := by
 have h1 := getElem?_lt hi
 apply List.ext_getElem?
 intro j
 rw [List.getElem?_set]
 by_cases hj : i = j
 ·subst hj
  have hlen : i < (xs.take i ++ ys.drop i).length := by simp; omega
  rw [if_pos rfl, if_pos hlen, List.getElem?_append_left (by simp; omega), List.getElem?_take_of_lt (by omega), hi]
 ·rw [if_neg hj, List.getElem?_append, List.getElem?_append]
  simp only [List.length_take, List.getElem?_take, List.getElem?_drop]
  by_cases h2 : j < i
  ·simp [show j < i + 1 by omega, h2, show min i xs.length = i by omega, show min (i + 1) xs.length = i + 1 by omega]
  ·have h3 : ¬ j < i + 1 := by omega
   simp [h3, h2, show min i xs.length = i by omega, show min (i + 1) xs.length = i + 1 by omega]
   congr 1
   omega
end Go.PV

/-
 Plain laws: greatest divisors, fractions, floors, fractions reduced.
 Conditions: none.
-/
namespace Go.PV
theorem yhb (a b : Nat) (hb : b ≠ 0) : Nat.gcd b (a % b) = Nat.gcd a b := by
 rw [Nat.gcd_comm a b, Nat.gcd_rec b a, Nat.gcd_comm]
theorem ykd (b : Nat) : ∀ a : Nat, loopO impl_greatestDivisor_b1 ((a : Int), (b : Int)) = some ((Nat.gcd a b : Nat) : Int) := by
 induction b using Nat.strongRecOn with
 | ind b ih =>
  intro a
  rw [loopO_eq]
  by_cases hb : b = 0
  ·subst hb; simp [impl_greatestDivisor_b1]
  ·have hb' : ((b : Int) != 0) = true := by simp; omega
   simp only [impl_greatestDivisor_b1, hb', if_true, guardO_bind_pos (show (b : Int) ≠ 0 by omega)]
   have : Int.tmod (a : Int) (b : Int) = ((a % b : Nat) : Int) := rfl
   rw [this, ih (a % b) (Nat.mod_lt _ (by omega)) b, yhb a b hb]
theorem yld (b : Nat) : ∀ a : Nat, loopO spec_raCommon_b1 ((a : Int), (b : Int)) = some ((Nat.gcd a b : Nat) : Int) := by
 induction b using Nat.strongRecOn with
 | ind b ih =>
  intro a
  rw [loopO_eq]
  by_cases hb : b = 0
  ·subst hb; simp [spec_raCommon_b1]
  ·have hb' : decide ((b : Int) > 0) = true := by simp; omega
   simp only [spec_raCommon_b1, hb', if_true, guardO_bind_pos (show (b : Int) ≠ 0 by omega)]
   have : Int.tmod (a : Int) (b : Int) = ((a % b : Nat) : Int) := rfl
   rw [this, ih (a % b) (Nat.mod_lt _ (by omega)) b, yhb a b hb]
theorem ybd (a : Int) (h : -9223372036854775808 < a) (h2 : a ≤ 9223372036854775807) : impl_abs a = some (a.natAbs : Int) := by
 unfold impl_abs
 by_cases ha : a < 0
 ·simp only [ha, decide_true, if_true]; rw [w64_id (by omega) (by omega)]; congr 1; omega
 ·simp only [ha, decide_false, Bool.false_eq_true, if_false]; congr 1; omega
theorem yxa (a : Int) (h : -9223372036854775808 < a) (h2 : a ≤ 9223372036854775807) : spec_l1Abs a = some (a.natAbs : Int) := by
 unfold spec_l1Abs spec_l1Most
 rw [w64_id (by omega) (by omega)]
 by_cases ha : a > 0 - a
 ·simp only [ha, decide_true, if_true, Option.bind_some]; congr 1; omega
 ·simp only [ha, decide_false, Bool.false_eq_true, if_false, Option.bind_some]; congr 1; omega
theorem yma (a b : Int) (h : -9223372036854775808 < a) (h2 : a ≤ 9223372036854775807) (h3 : -9223372036854775808 < b) (h4 : b ≤ 9223372036854775807) :
  impl_greatestDivisor a b = some ((Int.gcd a b : Nat) : Int) := by
 simp only [impl_greatestDivisor, ybd a h h2, ybd b h3 h4, Option.bind_some, ykd, impl_greatestDivisor_k1]
 rfl
theorem yya (a b : Int) (h : 0 ≤ a) (h2 : 0 ≤ b) : spec_raCommon a b = some ((Int.gcd a b : Nat) : Int) := by
 obtain ⟨m, rfl⟩ := Int.eq_ofNat_of_zero_le h
 obtain ⟨n, rfl⟩ := Int.eq_ofNat_of_zero_le h2
 simp only [spec_raCommon]
 rw [yld]
 rfl
def isRat (r : Int × Int) : Bool := inB 1 1000000000 r.2 && (inB (-1000000000) 1000000000 r.1 && (Int.gcd r.1 r.2 : Int) == 1)
theorem isRat_iff {r : Int × Int} : isRat r = true ↔ 1 ≤ r.2 ∧ r.2 ≤ 1000000000 ∧ -1000000000 ≤ r.1 ∧ r.1 ≤ 1000000000 ∧ Int.gcd r.1 r.2 = 1 := by
 simp only [isRat, Bool.and_eq_true, inB_iff, beq_iff_eq]
 constructor
 ·rintro ⟨⟨h1, h2⟩, ⟨h3, h4⟩, h5⟩; exact ⟨h1, h2, h3, h4, by omega⟩
 ·rintro ⟨h1, h2, h3, h4, h5⟩; exact ⟨⟨h1, h2⟩, ⟨h3, h4⟩, by omega⟩
theorem yza (r : Int × Int) : impl_isRat r = some (isRat r) := by
 unfold impl_isRat isRat
 simp only [yla, Option.bind_some]
 cases h1 : inB 1 1000000000 r.2
 ·rfl
 ·cases h2 : inB (-1000000000) 1000000000 r.1
  ·rfl
  ·have h1' := inB_iff.1 h1
   have h2' := inB_iff.1 h2
   simp only [if_true, yma r.1 r.2 (by omega) (by omega) (by omega) (by omega), Option.bind_some, Bool.true_and]
theorem yib (r : Int × Int) : spec_raGood r = some (isRat r) := by
 unfold spec_raGood isRat
 simp only [yna, Option.bind_some]
 cases h1 : inB 1 1000000000 r.2
 ·rfl
 ·cases h2 : inB (-1000000000) 1000000000 r.1
  ·rfl
  ·have h1' := inB_iff.1 h1
   have h2' := inB_iff.1 h2
   simp only [if_true, yxa r.1 (by omega) (by omega), yya _ r.2 (Int.natCast_nonneg _) (by omega), Option.bind_some, Bool.true_and]
   rfl
theorem yra (l : List (Int × Int)) (hl : l.length ≤ 4611686018427387904) : impl_areRats l = some (l.all isRat) := by
 have h := loop_any (xs := l) (body := impl_areRats_b1 l) (fun x => !isRat x) (fun i => (i : Int)) (.inl false) (.inr ()) (fun i x hx => by
  have hi := getElem?_lt hx
  simp only [impl_areRats_b1, idxO_nat, hx, yza, Option.bind_some, w64_nat (show i < 9223372036854775807 by omega), show ((i : Int) < (l.length : Int)) from by omega, decide_true, if_true]
  cases isRat x <;> rfl) (by simp [impl_areRats_b1])
 unfold impl_areRats
 rw [show (0 : Int) = ((0 : Nat) : Int) from rfl, h, List.any_eq_not_all_not]
 simp only [Bool.not_not]
 cases l.all isRat <;> rfl
def lowest (n d : Int) : (Int × Int) × Bool :=
 let g := if d < 0 then -(Int.gcd n d : Int) else Int.gcd n d
 if isRat (Int.tdiv n g, Int.tdiv d g) then ((Int.tdiv n g, Int.tdiv d g), true) else ((0, 0), false)
theorem tdiv_w64 (n g : Int) (h : -9223372036854775808 < n) (h2 : n ≤ 9223372036854775807) (hg : g ≠ 0) : w64 (Int.tdiv n g) = Int.tdiv n g := by
 have h1 : (Int.tdiv n g).natAbs ≤ n.natAbs := by rw [Int.natAbs_tdiv]; exact Nat.div_le_self _ _
 exact w64_id (by omega) (by omega)
theorem ysa (n d : Int) (hd : d ≠ 0) (h : -9223372036854775808 < n) (h2 : n ≤ 9223372036854775807) (h3 : -9223372036854775808 < d) (h4 : d ≤ 9223372036854775807) : impl_lowest n d = some (lowest n d) := by
 have hg0 : Int.gcd n d ≠ 0 := by rw [Ne, Int.gcd_eq_zero_iff]; omega
 have hgl : (Int.gcd n d : Int) ≤ 9223372036854775807 := by
  have : Int.gcd n d ≤ d.natAbs := Nat.gcd_le_right _ (by omega)
  omega
 have key : ∀ g : Int, g ≠ 0 → impl_lowest_k1 n d g = some (if isRat (Int.tdiv n g, Int.tdiv d g) then ((Int.tdiv n g, Int.tdiv d g), true) else ((0, 0), false)) := fun g hg => by
  simp only [impl_lowest_k1, guardO_bind_pos hg, tdiv_w64 n g h h2 hg, tdiv_w64 d g h3 h4 hg, yza, Option.bind_some]
  cases isRat (Int.tdiv n g, Int.tdiv d g) <;> rfl
 unfold impl_lowest lowest
 simp only [yma n d h h2 h3 h4, Option.bind_some]
 by_cases hneg : d < 0
 ·simp only [hneg, decide_true, if_true]
  rw [show (0 : Int) - (Int.gcd n d : Int) = -(Int.gcd n d : Int) by omega, w64_id (by omega) (by omega), key _ (by omega)]
 ·simp only [hneg, decide_false, Bool.false_eq_true, if_false]
  rw [key _ (by omega)]
theorem mul_le_9 {a b : Int} (ha : -1000000000 ≤ a) (ha2 : a ≤ 1000000000) (hb : -1000000000 ≤ b) (hb2 : b ≤ 1000000000) : -1000000000000000000 ≤ a * b ∧ a * b ≤ 1000000000000000000 := by
 have h1 : (a * b).natAbs ≤ 1000000000 * 1000000000 := by
  rw [Int.natAbs_mul]; exact Nat.mul_le_mul (by omega) (by omega)
 omega
theorem ylc (a b : Int × Int) : impl_AddRats a b = some (if isRat a && isRat b then lowest (a.1 * b.2 + b.1 * a.2) (a.2 * b.2) else ((0, 0), false)) := by
 unfold impl_AddRats
 rw [yra _ (by simp)]
 simp only [Option.bind_some, List.all_cons, List.all_nil, Bool.and_true]
 cases ha : isRat a
 ·rfl
 ·cases hb : isRat b
  ·rfl
  ·obtain ⟨a1, a2, a3, a4, _⟩ := isRat_iff.1 ha
   obtain ⟨b1, b2, b3, b4, _⟩ := isRat_iff.1 hb
   have m1 := mul_le_9 a3 a4 (show -1000000000 ≤ b.2 by omega) b2
   have m2 := mul_le_9 b3 b4 (show -1000000000 ≤ a.2 by omega) a2
   have m3 := mul_le_9 (show -1000000000 ≤ a.2 by omega) a2 (show -1000000000 ≤ b.2 by omega) b2
   have hne : a.2 * b.2 ≠ 0 := Int.mul_ne_zero (by omega) (by omega)
   simp only [Bool.and_self, Bool.not_true, Bool.false_eq_true, if_false, if_true]
   rw [w64_id (n := a.1 * b.2) (by omega) (by omega), w64_id (n := b.1 * a.2) (by omega) (by omega), w64_id (n := a.1 * b.2 + b.1 * a.2) (by omega) (by omega), w64_id (n := a.2 * b.2) (by omega) (by omega), ysa _ _ hne (by omega) (by omega) (by omega) (by omega)]
   rfl
def near (r : Int × Int) : Bool := isRat r && inB (-1000 * r.2) (1000 * r.2) r.1
def cmp (a b : Int × Int) : Int := if a.1 * b.2 < b.1 * a.2 then -1 else if a.1 * b.2 > b.1 * a.2 then 1 else 0
def tame (r : Int × Int) : Prop := -1000000000 ≤ r.1 ∧ r.1 ≤ 1000000000 ∧ -1000000000 ≤ r.2 ∧ r.2 ≤ 1000000000
theorem tame_of {r : Int × Int} (h : isRat r = true) : tame r := by
 obtain ⟨h1, h2, h3, h4, _⟩ := isRat_iff.1 h
 exact ⟨h3, h4, by omega, h2⟩
theorem ymc (a b : Int × Int) (ha : tame a) (hb : tame b) : impl_compare a b = some (cmp a b) := by
 obtain ⟨a1, a2, a3, a4⟩ := ha
 obtain ⟨b1, b2, b3, b4⟩ := hb
 have m1 := mul_le_9 a1 a2 b3 b4
 have m2 := mul_le_9 b1 b2 a3 a4
 unfold impl_compare cmp
 rw [w64_id (n := a.1 * b.2) (by omega) (by omega), w64_id (n := b.1 * a.2) (by omega) (by omega)]
 by_cases h1 : a.1 * b.2 < b.1 * a.2
 ·simp [h1]
 ·by_cases h2 : a.1 * b.2 > b.1 * a.2
  ·simp [h1, h2]
  ·simp [h1, h2]
def less (a b : Int × Int) : Bool := decide (a.1 * b.2 < b.1 * a.2)
theorem yfa (a b : Int × Int) (ha : tame a) (hb : tame b) : impl_less a b = some (less a b) := by
 unfold impl_less less
 rw [ymc a b ha hb]
 unfold cmp
 by_cases h1 : a.1 * b.2 < b.1 * a.2
 ·simp [h1]
 ·by_cases h2 : a.1 * b.2 > b.1 * a.2
  ·simp [h1, h2]
  ·simp [h1, h2]
def floorDiv (n d : Int) : Int := if Int.tmod n d < 0 then Int.tdiv n d - 1 else Int.tdiv n d
theorem ymd (n d : Int) : (Int.tdiv n d).natAbs ≤ n.natAbs := by rw [Int.natAbs_tdiv]; exact Nat.div_le_self _ _
def reduceRat (r : Int × Int) : (Int × Int) × Bool := if near r then ((r.1 - floorDiv r.1 r.2 * r.2, r.2), true) else ((0, 0), false)
theorem yfb (r : Int × Int) : laws_eqRat r r = some true := by simp [laws_eqRat]
end Go.PV

set_option linter.all false
namespace Go.PV
abbrev Pt := (Int × Int) × (Int × Int)
def zP : Pt := ((0, 0), (0, 0))
theorem yga (xs : List Pt) (f : Pt → Option Bool) (p : Pt → Bool) (hf : ∀ x, f x = some (p x)) (hl : xs.length ≤ 4611686018427387904) :
  slices_IndexFunc_Limpl_Point_impl_Point xs f = some (match xs.findIdx? p with | some i => (i : Int) | none => -1) := by
 have h := loop_first (xs := xs) (body := slices_IndexFunc_Limpl_Point_impl_Point_b1 xs f) p (fun i => (i : Int)) (fun i => .inl (i : Int)) (.inr ()) (fun i x hx => by
  have hi := getElem?_lt hx
  simp only [slices_IndexFunc_Limpl_Point_impl_Point_b1, idxO_nat, hx, hf, Option.bind_some, w64_nat (show i < 9223372036854775807 by omega), show ((i : Int) < (xs.length : Int)) from by omega, decide_true, if_true]
  cases p x <;> rfl) (by simp [slices_IndexFunc_Limpl_Point_impl_Point_b1])
 unfold slices_IndexFunc_Limpl_Point_impl_Point
 rw [show (0 : Int) = ((0 : Nat) : Int) from rfl, h]
 cases xs.findIdx? p <;> rfl
theorem yea (xs : List Pt) (f : Pt → Option Bool) (p : Pt → Bool) (hf : ∀ x, f x = some (p x)) (hl : xs.length ≤ 4611686018427387904) : slices_ContainsFunc_Limpl_Point_impl_Point xs f = some (xs.any p) := by
 simp only [slices_ContainsFunc_Limpl_Point_impl_Point, yga xs f p hf hl, Option.bind_some]
 cases h : xs.findIdx? p with
 | none =>
  have hn := List.findIdx?_eq_none_iff.1 h
  have : xs.any p = false := by simpa using hn
  simp [this]
 | some m =>
  obtain ⟨hm, hp, _⟩ := List.findIdx?_eq_some_iff_getElem.1 h
  have : xs.any p = true := List.any_eq_true.2 ⟨xs[m], List.getElem_mem hm, hp⟩
  simp [this]
theorem ync (p : Pt) : laws_toPoint p = some p := rfl
theorem ygc (xs : List Pt) (hl : xs.length ≤ 1099511627776) : laws_toPointS xs = some xs := by
 have h := loop_idx (body := laws_toPointS_b1 xs) xs.length (fun i => (xs.take i ++ (List.replicate xs.length zP).drop i, (i : Int))) xs (fun i hi => by
  have hlen : i < (xs.take i ++ (List.replicate xs.length zP).drop i).length := by simp; omega
  simp only [laws_toPointS_b1, idxO_lt hi, idxO_lt hlen, ync, Option.bind_some, w64_nat (show i < 9223372036854775807 by omega), show ((i : Int) < (xs.length : Int)) from by omega, decide_true, if_true, Int.toNat_natCast]
  rw [set_at _ _ _ _ (List.getElem?_eq_getElem hi) (by simpa using hi)]) (by simp [laws_toPointS_b1])
 unfold laws_toPointS
 rw [guardO_bind_pos (by omega)]
 simp only [List.take_zero, List.nil_append, List.drop_zero] at h
 rw [Int.toNat_natCast]
 have h' : loopO (laws_toPointS_b1 xs) (List.replicate xs.length ((0, 0), (0, 0)), 0) = some xs := h
 rw [h']
 rfl
theorem yzb (p : Pt) : laws_eqPoint p p = some true := by simp [laws_eqPoint, yfb]
theorem yub (xs : List Pt) (hl : xs.length ≤ 4611686018427387904) : laws_eqPointS xs xs = some true := by
 have h := loop_idx (body := laws_eqPointS_b1 xs xs) xs.length (fun i => (i : Int)) (.inr ()) (fun i hi => by
  simp only [laws_eqPointS_b1, idxO_lt hi, yzb, Option.bind_some, w64_nat (show i < 9223372036854775807 by omega), show ((i : Int) < (xs.length : Int)) from by omega, decide_true, if_true]
  simp) (by simp [laws_eqPointS_b1])
 unfold laws_eqPointS
 rw [show (0 : Int) = ((0 : Nat) : Int) from rfl, h]
 simp [laws_eqPointS_k1]
theorem yhc (xs : List Pt) (m : Nat) (hm : m ≤ 4611686018427387904) (hl : xs.length ≤ 9223372036854775807) : laws_szPointS xs (m : Int) = some (if m < xs.length then -1 else (m : Int) - xs.length) := by
 unfold laws_szPointS
 rw [w64_id (by omega) (by omega)]
 by_cases h : m < xs.length
 ·have : (m : Int) - xs.length < 0 := by omega
  simp [this, h]
 ·have : ¬ (m : Int) - xs.length < 0 := by omega
  simp [this, h]
theorem yba (a b : Int × Int) (ha : tame a) (hb : tame b) : spec_raCmp a b = some (cmp a b) := by
 obtain ⟨a1, a2, a3, a4⟩ := ha
 obtain ⟨b1, b2, b3, b4⟩ := hb
 have m1 := mul_le_9 a1 a2 b3 b4
 have m2 := mul_le_9 b1 b2 a3 a4
 unfold spec_raCmp spec_l1Sign cmp
 rw [w64_id (n := a.1 * b.2) (by omega) (by omega), w64_id (n := b.1 * a.2) (by omega) (by omega), w64_id (n := a.1 * b.2 - b.1 * a.2) (by omega) (by omega)]
 by_cases h1 : a.1 * b.2 < b.1 * a.2
 ·have : ¬ (a.1 * b.2 - b.1 * a.2 > 0) := by omega
  have h3 : a.1 * b.2 - b.1 * a.2 < 0 := by omega
  simp [h1, h3]; omega
 ·by_cases h2 : a.1 * b.2 > b.1 * a.2
  ·have : a.1 * b.2 - b.1 * a.2 > 0 := by omega
   simp [h1, h2, this]
  ·have h3 : ¬ (a.1 * b.2 - b.1 * a.2 > 0) := by omega
   have h4 : ¬ (a.1 * b.2 - b.1 * a.2 < 0) := by omega
   simp [h1, h2, h3, h4]
theorem cmp_ge (a b : Int × Int) : decide (cmp a b ≥ 0) = !less a b := by
 unfold cmp less
 by_cases h1 : a.1 * b.2 < b.1 * a.2
 ·simp [h1]
 ·by_cases h2 : a.1 * b.2 > b.1 * a.2 <;> simp [h1, h2]
theorem cmp_zero (a b : Int × Int) : (cmp a b == 0) = (a.1 * b.2 == b.1 * a.2) := by
 unfold cmp
 by_cases h1 : a.1 * b.2 < b.1 * a.2
 ·have : ¬ a.1 * b.2 = b.1 * a.2 := by omega
  simp [h1, this]
 ·by_cases h2 : a.1 * b.2 > b.1 * a.2
  ·have : ¬ a.1 * b.2 = b.1 * a.2 := by omega
   simp [h1, h2, this]
  ·have : a.1 * b.2 = b.1 * a.2 := by omega
   simp [this]
def isUnit (r : Int × Int) : Bool := isRat r && inB 0 r.2 r.1
def coord (r : Int × Int) : Bool := isUnit r && decide (r.2 ≤ 100)
theorem yta (r : Int × Int) : spec_raUnit r = some (isUnit r) := by
 unfold spec_raUnit isUnit
 simp only [yib, Option.bind_some, yna]
 cases isRat r <;> simp
theorem yjb (r : Int × Int) : impl_isUnit r = some (isUnit r) := by
 simp [impl_isUnit, yza, isUnit, inB]
theorem yoc (r : Int × Int) : spec_imCoord r = some (coord r) := by simp [spec_imCoord, yta, coord]
theorem ypc (r : Int × Int) : impl_isCoord r = some (coord r) := by simp [impl_isCoord, yjb, coord]
theorem yka {r : Int × Int} (h : coord r = true) : isRat r = true := by
 simp only [coord, isUnit, Bool.and_eq_true] at h
 exact h.1.1
def goodPt (p : Pt) : Bool := coord p.1 && (isRat p.2 && (decide (p.2.2 ≤ 100) && inB (-5 * p.2.2) (5 * p.2.2) p.2.1))
def stepPt (a b : Pt) : Bool := less a.1 b.1 && !less b.2 a.2
def steps (xs : List Pt) (n : Nat) : Prop := ∀ i a b, 0 < i → i < n → xs[i - 1]? = some a → xs[i]? = some b → stepPt a b = true
def ends (xs : List Pt) : Bool := match xs[0]?, xs[xs.length - 1]? with
 | some a, some b => (a.1 == (0, 1)) && ((b.1 == (1, 1)) && (b.2 == (a.2.1 + a.2.2, a.2.2)))
 | _, _ => false
open Classical in
noncomputable def isLift (xs : List Pt) : Bool := inB 2 12 xs.length && (decide (xs.all goodPt = true ∧ steps xs xs.length) && ends xs)
end Go.PV

/-
 Plain laws: lists and tables by their places.
 Conditions: none.
-/
namespace Go.PV
section
variable {α β : Type}
def tab (n : Nat) (f : Nat → α) : List α := (List.range n).map f
theorem tab_len (n : Nat) (f : Nat → α) : (tab n f).length = n := by simp [tab]
theorem tab_get {n i : Nat} {f : Nat → α} (h : i < n) : (tab n f)[i]? = some (f i) := by simp [tab, h]
theorem yua {n i : Nat} {f : Nat → α} (h : n ≤ i) : (tab n f)[i]? = none := by simp [tab, h]
theorem idxO_tab {n i : Nat} {f : Nat → α} (h : i < n) : idxO (tab n f) (i : Int) = some (f i) := by rw [idxO_nat, tab_get h]
theorem tab_ext {n : Nat} {f g : Nat → α} (h : ∀ i, i < n → f i = g i) : tab n f = tab n g := List.map_congr_left fun i hi => h i (List.mem_range.1 hi)
theorem tab_set {n i : Nat} {f : Nat → α} {v : α} (h : i < n) : (tab n f).set i v = tab n (fun k => if k = i then v else f k) := by
 apply List.ext_getElem?
 intro j
 rw [List.getElem?_set]
 by_cases hij : i = j
 ·subst hij
  rw [if_pos rfl, if_pos (by rw [tab_len]; exact h), tab_get h, if_pos rfl]
 ·rw [if_neg hij]
  by_cases hj : j < n
  ·rw [tab_get hj, tab_get hj, if_neg (Ne.symm hij)]
  ·rw [yua (by omega), yua (by omega)]
theorem rep_tab (n : Nat) (v : α) : List.replicate n v = tab n (fun _ => v) := by
 apply List.ext_getElem?
 intro j
 by_cases hj : j < n
 ·rw [tab_get hj]; simp [hj]
 ·rw [yua (by omega)]; simp [hj]
theorem tab_succ (n : Nat) (f : Nat → α) : tab n f ++ [f n] = tab (n + 1) f := by simp [tab, List.range_succ]
theorem tab_zero (f : Nat → α) : tab 0 f = [] := rfl
theorem tab_eta [Inhabited α] (xs : List α) : xs = tab xs.length (fun i => xs.getD i default) := by
 apply List.ext_getElem?
 intro j
 by_cases hj : j < xs.length
 ·rw [tab_get hj]; simp [hj]
 ·rw [yua (by omega)]; simp; omega
theorem tab_mem {n : Nat} {f : Nat → α} {x : α} : x ∈ tab n f ↔ ∃ i, i < n ∧ f i = x := by simp [tab]
def mat (n m : Nat) (f : Nat → Nat → α) : List (List α) := tab n fun i => tab m (f i)
theorem mat_ext {n m : Nat} {f g : Nat → Nat → α} (h : ∀ i j, i < n → j < m → f i j = g i j) : mat n m f = mat n m g := tab_ext fun i hi => tab_ext fun j hj => h i j hi hj
theorem mat_set {n m i j : Nat} {f : Nat → Nat → α} {v : α} (hi : i < n) (hj : j < m) : (mat n m f).set i ((tab m (f i)).set j v) = mat n m (fun a b => if a = i ∧ b = j then v else f a b) := by
 unfold mat
 rw [tab_set hi, tab_set hj]
 refine tab_ext fun a _ => ?_
 by_cases ha : a = i
 ·subst ha; simp
 ·rw [if_neg ha]; exact tab_ext fun b _ => by simp [ha]
theorem mat_set2 {n m i j : Nat} {f : Nat → Nat → α} {r : Nat → α} {v : α} (hi : i < n) (hj : j < m) : (mat n m f).set i ((tab m r).set j v) = mat n m (fun a b => if a = i then (if b = j then v else r b) else f a b) := by
 unfold mat
 rw [tab_set hi, tab_set hj]
 refine tab_ext fun a _ => ?_
 by_cases ha : a = i
 ·subst ha; simp
 ·rw [if_neg ha]; exact tab_ext fun b _ => by simp [ha]
theorem mat_len (n m : Nat) (f : Nat → Nat → α) : (mat n m f).length = n := tab_len _ _
theorem idxO_mat {n m i : Nat} {f : Nat → Nat → α} (h : i < n) : idxO (mat n m f) (i : Int) = some (tab m (f i)) := idxO_tab h
def foldN (n : Nat) (g : β → Nat → β) (s : β) : β := (List.range n).foldl g s
theorem yab (n : Nat) (g : β → Nat → β) (s : β) : foldN (n + 1) g s = g (foldN n g s) n := by simp [foldN, List.range_succ]
theorem yke (g : β → Nat → β) (s : β) : foldN 0 g s = s := rfl
theorem yoe {n : Nat} {g h : β → Nat → β} {s : β} (H : ∀ b i, i < n → g b i = h b i) : foldN n g s = foldN n h s := by
 induction n with
 | zero => rfl
 | succ n ih => rw [yab, yab, ih fun b i hi => H b i (by omega), H _ _ (by omega)]
end
end Go.PV

/-
 Plain laws: graphs, numbers of walks.
 Conditions: none.
-/
namespace Go.PV
def sized (g : List (List Int)) : Prop := g.length ≤ 1048576 ∧ ∀ row ∈ g, row.length ≤ 1048576
def isGraph (g : List (List Int)) : Bool := inB 1 8 g.length && g.all fun row => (row.length : Int) == g.length && row.all (inB 0 9)
end Go.PV

/-
 Plain laws: powers of graphs' tables, numbers of all walks.
 Conditions: none.
-/
namespace Go.PV
def capMul (most acc w a : Int) : Int := if most < w64 (acc + w64 (w * a)) then most else w64 (acc + w64 (w * a))
def powStep (n : Nat) (G : Nat → Nat → Int) (most : Int) (F : Nat → Nat → Int) : Nat → Nat → Int := fun i j => foldN n (fun acc k => capMul most acc (F i k) (G k j)) 0
def idM : Nat → Nat → Int := fun i j => if i = j then 1 else 0
def powN (n : Nat) (G : Nat → Nat → Int) (most : Int) : Nat → Nat → Nat → Int
 | 0 => idM
 | m + 1 => powStep n G most (powN n G most m)
theorem yoa (n : Nat) (hn : n ≤ 1048576) : impl_emptyGraph (n : Int) = some (mat n n fun _ _ => 0) := by
 have hx := loop_idx (body := impl_emptyGraph_b1 (n : Int)) n (fun i => (tab n (fun a => if a < i then tab n (fun _ => (0 : Int)) else []), (i : Int))) (mat n n fun _ _ => 0) (fun i hi => by
  simp only [impl_emptyGraph_b1, Int.toNat_natCast, List.length_replicate, idxO_tab hi, Option.bind_some, w64_nat (show i < 9223372036854775807 by omega), show ((i : Int) < (n : Int)) from by omega, decide_true, if_true]
  rw [tab_set hi, rep_tab]
  congr 3
  refine tab_ext fun a _ => ?_
  by_cases h1 : a = i
  ·subst h1; simp
  ·by_cases h2 : a < i
   ·simp [h1, h2, show a < i + 1 by omega]
   ·simp [h1, h2, show ¬ a < i + 1 by omega]) (by
  simp only [impl_emptyGraph_b1, Int.toNat_natCast, List.length_replicate, Int.lt_irrefl, decide_false, Bool.false_eq_true, if_false]
  congr 2
  exact tab_ext fun a ha => by simp [ha])
 unfold impl_emptyGraph
 rw [guardO_bind_pos (by omega), Int.toNat_natCast, rep_tab]
 simp only [Nat.not_lt_zero, if_false] at hx
 rw [show (0 : Int) = ((0 : Nat) : Int) from rfl, hx]
 rfl
section impl
variable {n : Nat} {G : Nat → Nat → Int} {most : Int}
theorem impl_b4 (hn : n ≤ 8) {i k : Nat} (hi : i < n) (N : Nat → Nat → Int) (X : List (List Int)) (w : Int) :
  loopO (impl_powerUpTo_b4 most (X, (i : Int)) w (tab n (G k))) (mat n n N, 0) = some (mat n n (fun a b => if a = i then capMul most (N a b) w (G k b) else N a b)) := by
 have hx := loop_idx (body := impl_powerUpTo_b4 most (X, (i : Int)) w (tab n (G k))) n (fun j => (mat n n (fun a b => if a = i ∧ b < j then capMul most (N a b) w (G k b) else N a b), (j : Int))) (mat n n (fun a b => if a = i then capMul most (N a b) w (G k b) else N a b)) (fun j hj => by
  simp only [impl_powerUpTo_b4, tab_len, idxO_tab hj, idxO_mat hi, Option.bind_some, w64_nat (show j < 9223372036854775807 by omega), show ((j : Int) < (n : Int)) from by omega, decide_true, if_true, Int.toNat_natCast]
  rw [mat_set2 hi hj]
  congr 3
  refine mat_ext fun a b _ _ => ?_
  by_cases ha : a = i
  ·subst ha
   by_cases hb : b = j
   ·subst hb; simp [capMul]
   ·by_cases h2 : b < j
    ·simp [hb, h2, show b < j + 1 by omega]
    ·simp [hb, h2, show ¬ b < j + 1 by omega]
  ·simp [ha]) (by
  simp only [impl_powerUpTo_b4, tab_len, Int.lt_irrefl, decide_false, Bool.false_eq_true, if_false]
  congr 2
  exact mat_ext fun a b _ hb => by simp [hb])
 simpa using hx
theorem impl_b3 (hn : n ≤ 8) {i : Nat} (hi : i < n) (N : Nat → Nat → Int) (X : List (List Int)) (w : Nat → Int) :
  loopO (impl_powerUpTo_b3 (mat n n G) most (X, (i : Int)) (tab n w)) (mat n n N, 0) = some (mat n n (fun a b => if a = i then foldN n (fun acc k => capMul most acc (w k) (G k b)) (N a b) else N a b)) := by
 have hx := loop_idx (body := impl_powerUpTo_b3 (mat n n G) most (X, (i : Int)) (tab n w)) n (fun k => (mat n n (fun a b => if a = i then foldN k (fun acc k => capMul most acc (w k) (G k b)) (N a b) else N a b), (k : Int))) (mat n n (fun a b => if a = i then foldN n (fun acc k => capMul most acc (w k) (G k b)) (N a b) else N a b)) (fun k hk => by
  simp only [impl_powerUpTo_b3, tab_len, idxO_tab hk, idxO_mat hk, Option.bind_some, impl_b4 hn hi, impl_powerUpTo_k6, w64_nat (show k < 9223372036854775807 by omega), show ((k : Int) < (n : Int)) from by omega, decide_true, if_true]
  congr 3
  refine mat_ext fun a b _ _ => ?_
  by_cases ha : a = i
  ·subst ha; simp [yab]
  ·simp [ha]) (by simp only [impl_powerUpTo_b3, tab_len, Int.lt_irrefl, decide_false, Bool.false_eq_true, if_false])
 simp only [yke] at hx
 rw [show (fun a b => if a = i then N a b else N a b) = N from by funext a b; split <;> rfl] at hx
 simpa using hx
theorem impl_b2 (hn : n ≤ 8) (F : Nat → Nat → Int) (t : Int) :
  loopO (impl_powerUpTo_b2 (mat n n G) most (mat n n F, t)) (mat n n (fun _ _ => 0), 0) = some (mat n n (powStep n G most F)) := by
 have hx := loop_idx (body := impl_powerUpTo_b2 (mat n n G) most (mat n n F, t)) n (fun i => (mat n n (fun a b => if a < i then powStep n G most F a b else 0), (i : Int))) (mat n n (powStep n G most F)) (fun i hi => by
  simp only [impl_powerUpTo_b2, mat_len, idxO_mat hi, Option.bind_some, impl_b3 hn hi, impl_powerUpTo_k5, w64_nat (show i < 9223372036854775807 by omega), show ((i : Int) < (n : Int)) from by omega, decide_true, if_true]
  congr 3
  refine mat_ext fun a b _ _ => ?_
  by_cases ha : a = i
  ·subst ha; simp [powStep]
  ·by_cases h2 : a < i
   ·simp [ha, h2, show a < i + 1 by omega]
   ·simp [ha, h2, show ¬ a < i + 1 by omega]) (by
  simp only [impl_powerUpTo_b2, mat_len, Int.lt_irrefl, decide_false, Bool.false_eq_true, if_false]
  congr 2
  exact mat_ext fun a b ha _ => by simp [ha])
 simpa using hx
theorem impl_b1 (hn : n ≤ 8) (m : Nat) (hm : m ≤ 1048576) : loopO (impl_powerUpTo_b1 (mat n n G) (m : Int) most) (mat n n idM, 0) = some (mat n n (powN n G most m)) := by
 have hx := loop_idx (body := impl_powerUpTo_b1 (mat n n G) (m : Int) most) m (fun t => (mat n n (powN n G most t), (t : Int))) (mat n n (powN n G most m)) (fun t ht => by
  simp only [impl_powerUpTo_b1, mat_len, yoa n (by omega), impl_b2 hn, Option.bind_some, impl_powerUpTo_k4, impl_powerUpTo_k3, w64_nat (show t < 9223372036854775807 by omega), show ((t : Int) < (m : Int)) from by omega, decide_true, if_true]
  rfl) (by simp only [impl_powerUpTo_b1, Int.lt_irrefl, decide_false, Bool.false_eq_true, if_false])
 exact hx
theorem yac (hn : n ≤ 8) (m : Nat) (hm : m ≤ 1048576) : impl_powerUpTo (mat n n G) (m : Int) most = some (mat n n (powN n G most m)) := by
 have hx := loop_idx (body := impl_powerUpTo_b5 (mat n n fun _ _ => 0)) n (fun i => (mat n n (fun a b => if a < i then idM a b else 0), (i : Int))) (mat n n idM) (fun i hi => by
  simp only [impl_powerUpTo_b5, mat_len, idxO_mat hi, idxO_tab hi, Option.bind_some, w64_nat (show i < 9223372036854775807 by omega), show ((i : Int) < (n : Int)) from by omega, decide_true, if_true, Int.toNat_natCast]
  rw [mat_set2 hi hi]
  congr 3
  refine mat_ext fun a b _ _ => ?_
  by_cases ha : a = i
  ·subst ha
   by_cases hb : b = a
   ·subst hb; simp [idM]
   ·simp [hb, idM, Ne.symm hb]
  ·by_cases h2 : a < i
   ·simp [ha, h2, show a < i + 1 by omega]
   ·simp [ha, h2, show ¬ a < i + 1 by omega]) (by
  simp only [impl_powerUpTo_b5, mat_len, Int.lt_irrefl, decide_false, Bool.false_eq_true, if_false]
  congr 2
  exact mat_ext fun a b ha _ => by simp [ha])
 unfold impl_powerUpTo
 rw [mat_len, yoa n (by omega), Option.bind_some]
 simp only [Nat.not_lt_zero, if_false] at hx
 rw [show (0 : Int) = ((0 : Nat) : Int) from rfl, show (fun (_ _ : Nat) => ((0 : Nat) : Int)) = fun _ _ => (0 : Int) from rfl, hx, Option.bind_some, impl_powerUpTo_k1, impl_b1 hn m hm]
 rfl
end impl
section spec
variable {n : Nat} {G : Nat → Nat → Int}
end spec
def capAt (x : Int) : Int := if 1000000001 < x then 1000000001 else x
def total (g : List (List Int)) : Int := (g.map List.sum).sum
def totalWalks (g : List (List Int)) (m : Int) : Int × Bool :=
 if isGraph g && inB 0 12 m then
  let t := total (mat g.length g.length (powN g.length (fun i j => (g.getD i []).getD j 0) 1000000001 m.toNat))
  if t > 1000000000 then (0, false) else (t, true)
 else (0, false)
end Go.PV

set_option linter.all false
namespace Go.PV
theorem yxd {n d : Int} (h1 : 0 ≤ n) (h2 : n ≤ 1000000000) (h3 : 1 ≤ d) (h4 : d ≤ 1000000000) : isRat (lowest n d).1 = true := by
 have hg : 0 < Int.gcd n d := Int.gcd_pos_of_ne_zero_right _ (by omega)
 have key : isRat (Int.tdiv n (Int.gcd n d : Int), Int.tdiv d (Int.gcd n d : Int)) = true := by
  obtain ⟨a, rfl⟩ := Int.eq_ofNat_of_zero_le h1
  obtain ⟨b, rfl⟩ := Int.eq_ofNat_of_zero_le (show 0 ≤ d by omega)
  have e : Int.gcd (a : Int) (b : Int) = Nat.gcd a b := rfl
  rw [e] at hg ⊢
  have e1 : Int.tdiv (a : Int) ((Nat.gcd a b : Nat) : Int) = ((a / Nat.gcd a b : Nat) : Int) := by rw [Int.tdiv_eq_ediv_of_nonneg (by omega)]; rfl
  have e2 : Int.tdiv (b : Int) ((Nat.gcd a b : Nat) : Int) = ((b / Nat.gcd a b : Nat) : Int) := by rw [Int.tdiv_eq_ediv_of_nonneg (by omega)]; rfl
  rw [e1, e2, isRat_iff]
  have l1 : a / Nat.gcd a b ≤ a := Nat.div_le_self _ _
  have l2 : b / Nat.gcd a b ≤ b := Nat.div_le_self _ _
  have l3 : 0 < b / Nat.gcd a b := Nat.div_pos (Nat.le_of_dvd (by omega) (Nat.gcd_dvd_right a b)) hg
  have l4 : ((a / Nat.gcd a b : Nat) : Int) ≤ 1000000000 := by omega
  have l5 : ((b / Nat.gcd a b : Nat) : Int) ≤ 1000000000 := by omega
  have l6 : 1 ≤ ((b / Nat.gcd a b : Nat) : Int) := by omega
  have l7 : 0 ≤ ((a / Nat.gcd a b : Nat) : Int) := Int.natCast_nonneg _
  generalize hA : ((a / Nat.gcd a b : Nat) : Int) = A at l4 l7 ⊢
  generalize hB : ((b / Nat.gcd a b : Nat) : Int) = B at l5 l6 ⊢
  refine ⟨l6, l5, by show -1000000000 ≤ A; omega, l4, ?_⟩
  rw [← hA, ← hB]
  exact Nat.coprime_div_gcd_div_gcd hg
 have hdn : ¬ d < 0 := by omega
 unfold lowest
 simp only [if_neg hdn]
 rw [if_pos key]
 exact key
def dotN (G : Nat → Int) (v : Nat → Int) (n : Nat) : Int := foldN n (fun s j => s + G j * v j) 0
end Go.PV

/-
 Plain laws: sums, products and quotients of fractions, with what is too large told.
 Conditions: none.
-/
set_option linter.all false
namespace Go.PV
abbrev Rt := Int × Int
def unO : Option Rt → Rt × Bool
 | some r => (r, true)
 | none => ((0, 0), false)
def lowQ (n d : Int) : Option Rt := if (lowest n d).2 = true then some (lowest n d).1 else none
theorem ycd (n d : Int) : ∃ x : Rt, lowest n d = if isRat x = true then (x, true) else ((0, 0), false) := ⟨_, rfl⟩
theorem ype {n d : Int} (h : (lowest n d).2 = false) : lowest n d = ((0, 0), false) := by
 obtain ⟨x, e⟩ := ycd n d
 rw [e] at h ⊢
 by_cases h2 : isRat x = true
 ·rw [if_pos h2] at h; cases h
 ·rw [if_neg h2]
theorem ykb (n d : Int) : lowest n d = unO (lowQ n d) := by
 unfold lowQ
 cases h : (lowest n d).2
 ·rw [ype h]; rfl
 ·have : lowest n d = ((lowest n d).1, (lowest n d).2) := rfl
  rw [this, h]; rfl
theorem yme {n d : Int} (h : (lowest n d).2 = true) : isRat (lowest n d).1 = true := by
 obtain ⟨x, e⟩ := ycd n d
 rw [e] at h ⊢
 by_cases h2 : isRat x = true
 ·rw [if_pos h2]; exact h2
 ·rw [if_neg h2] at h; cases h
theorem lowQ_rat {n d : Int} {r : Rt} (h : lowQ n d = some r) : isRat r = true := by
 unfold lowQ at h
 split at h
 ·rename_i h2; obtain rfl := Option.some.inj h; exact yme h2
 ·cases h
theorem ypa (n d : Int) (hd : d ≠ 0) (h1 : -4000000000000000000 ≤ n) (h2 : n ≤ 4000000000000000000) (h3 : -4000000000000000000 ≤ d) (h4 : d ≤ 4000000000000000000) : spec_raMake n d = some (unO (lowQ n d)) := by
 have hg : 0 < Int.gcd n d := Int.gcd_pos_of_ne_zero_right _ hd
 have hd0 : (d == 0) = false := by simpa using hd
 have hgl : (Int.gcd n d : Int) ≤ 4000000000000000000 := by
  have : Int.gcd n d ≤ d.natAbs := Nat.gcd_le_right _ (by omega)
  omega
 have e : Int.gcd (n.natAbs : Int) (d.natAbs : Int) = Int.gcd n d := rfl
 have key : ∀ g : Int, g ≠ 0 → spec_raMake_k1 n d g = some (if isRat (Int.tdiv n g, Int.tdiv d g) then ((Int.tdiv n g, Int.tdiv d g), true) else ((0, 0), false)) := fun g hg => by
  simp only [spec_raMake_k1, guardO_bind_pos hg, tdiv_w64 n g (by omega) (by omega) hg, tdiv_w64 d g (by omega) (by omega) hg, yib, Option.bind_some]
  cases isRat (Int.tdiv n g, Int.tdiv d g) <;> rfl
 rw [← ykb]
 unfold spec_raMake lowest
 simp only [hd0, Bool.false_eq_true, if_false, yxa n (by omega) (by omega), yxa d (by omega) (by omega), Option.bind_some, yya (n.natAbs : Int) (d.natAbs : Int) (by omega) (by omega), e]
 by_cases hneg : d < 0
 ·simp only [hneg, decide_true, if_true]
  rw [show (0 : Int) - (Int.gcd n d : Int) = -(Int.gcd n d : Int) by omega, w64_id (by omega) (by omega), key _ (by omega)]
 ·simp only [hneg, decide_false, Bool.false_eq_true, if_false]
  rw [key _ (by omega)]
def addQ (a b : Rt) : Option Rt := lowQ (a.1 * b.2 + b.1 * a.2) (a.2 * b.2)
def subQ (a b : Rt) : Option Rt := lowQ (a.1 * b.2 - b.1 * a.2) (a.2 * b.2)
def mulQ (a b : Rt) : Option Rt := lowQ (a.1 * b.1) (a.2 * b.2)
def divQ (a b : Rt) : Option Rt := if b.1 = 0 then none else lowQ (a.1 * b.2) (a.2 * b.1)
theorem addQ_rat {a b r : Rt} (h : addQ a b = some r) : isRat r = true := lowQ_rat h
theorem subQ_rat {a b r : Rt} (h : subQ a b = some r) : isRat r = true := lowQ_rat h
theorem mulQ_rat {a b r : Rt} (h : mulQ a b = some r) : isRat r = true := lowQ_rat h
structure RB (a b : Rt) : Prop where
 m1 : -1000000000000000000 ≤ a.1 * b.2 ∧ a.1 * b.2 ≤ 1000000000000000000
 m2 : -1000000000000000000 ≤ b.1 * a.2 ∧ b.1 * a.2 ≤ 1000000000000000000
 m3 : -1000000000000000000 ≤ a.2 * b.2 ∧ a.2 * b.2 ≤ 1000000000000000000
 m4 : -1000000000000000000 ≤ a.1 * b.1 ∧ a.1 * b.1 ≤ 1000000000000000000
 ne : a.2 * b.2 ≠ 0
 m5 : -1000000000000000000 ≤ a.2 * b.1 ∧ a.2 * b.1 ≤ 1000000000000000000
theorem rb {a b : Rt} (ha : isRat a = true) (hb : isRat b = true) : RB a b := by
 obtain ⟨a1, a2, a3, a4, _⟩ := isRat_iff.1 ha
 obtain ⟨b1, b2, b3, b4, _⟩ := isRat_iff.1 hb
 exact ⟨mul_le_9 a3 a4 (by omega) b2, mul_le_9 b3 b4 (by omega) a2, mul_le_9 (by omega) a2 (by omega) b2, mul_le_9 a3 a4 b3 b4, Int.mul_ne_zero (by omega) (by omega), mul_le_9 (by omega) a2 b3 b4⟩
section spec
variable {a b : Rt} (ha : isRat a = true) (hb : isRat b = true)
include ha hb
theorem ynd : spec_raAdd a b = some (unO (addQ a b)) := by
 obtain ⟨m1, m2, m3, m4, ne, m5⟩ := rb ha hb
 unfold spec_raAdd addQ
 rw [w64_id (n := a.1 * b.2) (by omega) (by omega), w64_id (n := b.1 * a.2) (by omega) (by omega), w64_id (n := a.2 * b.2) (by omega) (by omega), w64_id (by omega) (by omega), ypa _ _ ne (by omega) (by omega) (by omega) (by omega)]
 rfl
theorem ybb : spec_raSub a b = some (unO (subQ a b)) := by
 obtain ⟨m1, m2, m3, m4, ne, m5⟩ := rb ha hb
 unfold spec_raSub subQ
 rw [w64_id (n := a.1 * b.2) (by omega) (by omega), w64_id (n := b.1 * a.2) (by omega) (by omega), w64_id (n := a.2 * b.2) (by omega) (by omega), w64_id (by omega) (by omega), ypa _ _ ne (by omega) (by omega) (by omega) (by omega)]
 rfl
theorem yod : spec_raMul a b = some (unO (mulQ a b)) := by
 obtain ⟨m1, m2, m3, m4, ne, m5⟩ := rb ha hb
 unfold spec_raMul mulQ
 rw [w64_id (n := a.1 * b.1) (by omega) (by omega), w64_id (n := a.2 * b.2) (by omega) (by omega), ypa _ _ ne (by omega) (by omega) (by omega) (by omega)]
 rfl
theorem ypd : spec_raDiv a b = some (unO (divQ a b)) := by
 obtain ⟨m1, m2, m3, m4, ne, m5⟩ := rb ha hb
 obtain ⟨a1, _⟩ := isRat_iff.1 ha
 unfold spec_raDiv divQ
 by_cases h : b.1 = 0
 ·simp [h, unO]
 ·have h' : (b.1 == 0) = false := by simpa using h
  simp only [h', Bool.false_eq_true, if_false, h]
  rw [w64_id (n := a.1 * b.2) (by omega) (by omega), w64_id (n := a.2 * b.1) (by omega) (by omega), ypa _ _ (Int.mul_ne_zero (by omega) h) (by omega) (by omega) (by omega) (by omega)]
  rfl
end spec
def cK (bad : Bool) : Option Rt → Rt × Bool
 | some r => (r, bad)
 | none => ((0, 1), true)
theorem yva (bad : Bool) (o : Option Rt) : impl_calc_keep bad (unO o).1 (unO o).2 = some (cK bad o) := by
 cases o <;> simp [impl_calc_keep, unO, cK, impl_zero]
theorem cK_rat {bad : Bool} {o : Option Rt} (h : ∀ r, o = some r → isRat r = true) : isRat (cK bad o).1 = true := by
 cases o with
 | some r => exact h r rfl
 | none => exact (by decide : isRat (0, 1) = true)
theorem yec {a : Rt} (h : isRat a = true) : isRat (0 - a.1, a.2) = true := by
 obtain ⟨h1, h2, h3, h4, h5⟩ := isRat_iff.1 h
 refine isRat_iff.2 ⟨h1, h2, by show -1000000000 ≤ 0 - a.1; omega, by show 0 - a.1 ≤ _; omega, ?_⟩
 show Int.gcd (0 - a.1) a.2 = 1
 rw [Int.zero_sub, Int.neg_gcd]; exact h5
section impl
variable {a b : Rt} (bad : Bool) (ha : isRat a = true) (hb : isRat b = true)
include ha hb
theorem ylb : impl_AddRats a b = some (unO (addQ a b)) := by
 rw [ylc, ha, hb]
 simp only [Bool.and_self, if_true]
 rw [ykb]; rfl
theorem ymb : impl_SubtractRats a b = some (unO (subQ a b)) := by
 obtain ⟨b1, b2, b3, b4, _⟩ := isRat_iff.1 hb
 unfold impl_SubtractRats impl_negated
 rw [w64_id (by omega) (by omega), Option.bind_some, ylb ha (yec hb), Option.bind_some]
 congr 2
 unfold addQ subQ
 simp only
 congr 1
 rw [Int.sub_mul]; omega
theorem ynb : impl_MultiplyRats a b = some (unO (mulQ a b)) := by
 obtain ⟨m1, m2, m3, m4, ne, m5⟩ := rb ha hb
 unfold impl_MultiplyRats mulQ
 rw [yra _ (by simp)]
 simp only [Option.bind_some, List.all_cons, List.all_nil, Bool.and_true, ha, hb, Bool.and_self, Bool.not_true, Bool.false_eq_true, if_false]
 rw [w64_id (n := a.1 * b.1) (by omega) (by omega), w64_id (n := a.2 * b.2) (by omega) (by omega), ysa _ _ ne (by omega) (by omega) (by omega) (by omega), ykb]
 rfl
theorem ybc : impl_DivideRats a b = some (unO (divQ a b)) := by
 obtain ⟨m1, m2, m3, m4, ne, m5⟩ := rb ha hb
 obtain ⟨a1, _⟩ := isRat_iff.1 ha
 unfold impl_DivideRats divQ
 rw [yra _ (by simp)]
 simp only [Option.bind_some, List.all_cons, List.all_nil, Bool.and_true, ha, hb, Bool.and_self, Bool.not_true, Bool.false_or]
 by_cases h : b.1 = 0
 ·simp [h, unO]
 ·have h' : (b.1 == 0) = false := by simpa using h
  simp only [h', Bool.false_eq_true, if_false, h]
  rw [w64_id (n := a.1 * b.2) (by omega) (by omega), w64_id (n := a.2 * b.1) (by omega) (by omega), ysa _ _ (Int.mul_ne_zero (by omega) h) (by omega) (by omega) (by omega) (by omega), ykb]
  rfl
theorem yfe : impl_calc_add bad a b = some (cK bad (addQ a b)) := by
 unfold impl_calc_add; rw [ylb ha hb, Option.bind_some, yva]; rfl
theorem yvb : impl_calc_sub bad a b = some (cK bad (subQ a b)) := by
 unfold impl_calc_sub; rw [ymb ha hb, Option.bind_some, yva]; rfl
theorem yge : impl_calc_mul bad a b = some (cK bad (mulQ a b)) := by
 unfold impl_calc_mul; rw [ynb ha hb, Option.bind_some, yva]; rfl
theorem yhe : impl_calc_div bad a b = some (cK bad (divQ a b)) := by
 unfold impl_calc_div; rw [ybc ha hb, Option.bind_some, yva]; rfl
end impl
def absR (r : Rt) : Rt := ((r.1.natAbs : Int), r.2)
def distQ (a b : Rt) : Option Rt := if less a b then subQ b a else subQ a b
theorem lowQ_neg {n d : Int} (hd : 0 < d) : lowQ (-n) d = (lowQ n d).map fun r => (-r.1, r.2) := by
 have hn : ¬ d < 0 := by omega
 have e : isRat (Int.tdiv (-n) (Int.gcd n d : Int), Int.tdiv d (Int.gcd n d : Int)) = isRat (Int.tdiv n (Int.gcd n d : Int), Int.tdiv d (Int.gcd n d : Int)) := by
  rw [Int.neg_tdiv]
  cases h : isRat (Int.tdiv n (Int.gcd n d : Int), Int.tdiv d (Int.gcd n d : Int))
  ·cases h2 : isRat (-Int.tdiv n (Int.gcd n d : Int), Int.tdiv d (Int.gcd n d : Int))
   ·rfl
   ·have := yec h2
    simp only [Int.zero_sub, Int.neg_neg] at this
    rw [h] at this; cases this
  ·have := yec h
   simp only [Int.zero_sub] at this
   exact this
 unfold lowQ lowest
 simp only [Int.neg_gcd, if_neg hn, e]
 cases isRat (Int.tdiv n (Int.gcd n d : Int), Int.tdiv d (Int.gcd n d : Int))
 ·rfl
 ·simp [Int.neg_tdiv]
end Go.PV

set_option linter.all false
namespace Go.PV
theorem zero_iff {r : Int × Int} (h : isRat r = true) : (r.1 * 1 == 0 * r.2) = (r == (0, 1)) := by
 obtain ⟨h1, h2, h3, h4, h5⟩ := isRat_iff.1 h
 obtain ⟨n, d⟩ := r
 simp only [Int.mul_one, Int.zero_mul]
 by_cases hn : n = 0
 ·subst hn
  have h6 : d.natAbs = 1 := by simpa using h5
  have h7 : d = 1 := by omega
  subst h7; rfl
 ·have e1 : (n == 0) = false := by simpa using hn
  have e2 : ((n, d) == ((0, 1) : Int × Int)) = false := by simp [hn]
  rw [e1, e2]
theorem one_iff {r : Int × Int} (h : isRat r = true) : (r.1 * 1 == 1 * r.2) = (r == (1, 1)) := by
 obtain ⟨h1, h2, h3, h4, h5⟩ := isRat_iff.1 h
 obtain ⟨n, d⟩ := r
 simp only [Int.mul_one, Int.one_mul]
 by_cases hn : n = d
 ·subst hn
  have h6 : n.natAbs = 1 := by simpa using h5
  have h7 : n = 1 := by omega
  subst h7; rfl
 ·by_cases h6 : n = 1
  ·subst h6; have : ¬ d = 1 := fun e => hn e.symm
   have e1 : ((1 : Int) == d) = false := by simpa using hn
   have e2 : (((1 : Int), d) == ((1, 1) : Int × Int)) = false := by simp [this]
   rw [e1, e2]
  ·have e1 : (n == d) = false := by simpa using hn
   have e2 : ((n, d) == ((1, 1) : Int × Int)) = false := by simp [h6]
   rw [e1, e2]
theorem pair_beq (a b : Int × Int) : ((a.1 == b.1) && (a.2 == b.2)) = (a == b) := by
 obtain ⟨a1, a2⟩ := a; obtain ⟨b1, b2⟩ := b; rfl
end Go.PV

/-
 Plain laws: maps of the interval.
 Conditions: none.
-/
set_option linter.all false
namespace Go.PV
section
variable {α β : Type}
theorem loop_tab {X Y : Type} {body : X → Option (X ⊕ Y)} (n : Nat) (S : List β → Nat → X) (f : Nat → β) (y : Y) (h1 : ∀ i, i < n → body (S (tab i f) i) = some (.inl (S (tab i f ++ [f i]) (i + 1)))) (h2 : body (S (tab n f) n) = some (.inr y)) : loopO body (S [] 0) = some y := by
 have := loop_idx (body := body) n (fun i => S (tab i f) i) y (fun i hi => by rw [h1 i hi, tab_succ]) h2
 rw [tab_zero] at this
 exact this
theorem yed (i : Nat) (f : Nat → β) (x : β) (h : i ≤ 1048576) : (tab i f).length + [x].length ≤ 1099511627776 := by rw [tab_len]; simp; omega
end
def isMapT (n : Nat) (p : Nat → Pt) : Prop := (∀ i, i < n → coord (p i).1 = true ∧ coord (p i).2 = true) ∧ (∀ i, 0 < i → i < n → less (p (i - 1)).1 (p i).1 = true) ∧ (p 0).1 = (0, 1) ∧ (p (n - 1)).1 = (1, 1)
theorem w64_pred {i : Nat} (h : 0 < i) (h2 : i < 4611686018427387904) : w64 ((i : Int) - 1) = ((i - 1 : Nat) : Int) := by rw [w64_id (by omega) (by omega)]; omega
theorem yqa {r : Rt} (h : coord r = true) : tame r := tame_of (yka h)
theorem yfd {α : Type} {n : Nat} {p : Nat → α} (h : 0 < n) : idxO (tab n p) 0 = some (p 0) := idxO_tab (n := n) (f := p) (i := 0) h
theorem yqc (n : Nat) (p : Nat → Pt) (h2 : 2 ≤ n) (hn : n ≤ 12) : ∃ c, spec_imGood (tab n p) = some c ∧ (c = true ↔ isMapT n p) := by
 obtain ⟨y, h3, h4⟩ := loop_run (body := spec_imGood_b1 (tab n p)) (fun x => ∃ i : Nat, x = (i : Int) ∧ i ≤ n ∧ (∀ j, j < i → coord (p j).1 = true ∧ coord (p j).2 = true) ∧ (∀ j, 0 < j → j < i → less (p (j - 1)).1 (p j).1 = true)) (fun x => n - x.toNat)
  (fun y => (y = .inl false ∧ ¬ isMapT n p) ∨ (y = .inr () ∧ (∀ j, j < n → coord (p j).1 = true ∧ coord (p j).2 = true) ∧ (∀ j, 0 < j → j < n → less (p (j - 1)).1 (p j).1 = true))) (fun x ⟨i, e, hi, hc, hl⟩ => by
   subst e
   by_cases hlt : i < n
   ·simp only [spec_imGood_b1, tab_len, idxO_tab hlt, show ((i : Int) < (n : Int)) from by omega, decide_true, if_true, Option.bind_some, yoc]
    cases h5 : coord (p i).1
    ·right; exact ⟨.inl false, by simp, .inl ⟨rfl, fun h => by have := (h.1 i hlt).1; rw [h5] at this; cases this⟩⟩
    ·cases h6 : coord (p i).2
     ·right; exact ⟨.inl false, by simp, .inl ⟨rfl, fun h => by have := (h.1 i hlt).2; rw [h6] at this; cases this⟩⟩
     ·have hc' : ∀ j, j < i + 1 → coord (p j).1 = true ∧ coord (p j).2 = true := fun j hj => by
       by_cases hji : j < i
       ·exact hc j hji
       ·have : j = i := by omega
        subst this; exact ⟨h5, h6⟩
      by_cases hi0 : i = 0
      ·left
       subst hi0
       exact ⟨((1 : Nat) : Int), by simp [w64_id], ⟨1, rfl, by omega, hc', fun j h1 h2 => by omega⟩, by simp; omega⟩
      ·have hlt2 : i - 1 < n := by omega
       have hpos : ((i : Int) > 0) := by omega
       have ht1 := yqa (hc (i - 1) (by omega)).1
       simp only [hpos, decide_true, if_true, Bool.not_true, Bool.false_eq_true, if_false, w64_pred (show 0 < i by omega) (by omega), idxO_tab hlt2, Option.bind_some, yba _ _ ht1 (yqa h5), cmp_ge]
       cases h7 : less (p (i - 1)).1 (p i).1
       ·right; exact ⟨.inl false, by simp, .inl ⟨rfl, fun h => by have := h.2.1 i (by omega) hlt; rw [h7] at this; cases this⟩⟩
       ·left
        refine ⟨((i + 1 : Nat) : Int), by simp [w64_nat (show i < 9223372036854775807 by omega)], ⟨i + 1, rfl, hlt, hc', fun j h1 h2 => ?_⟩, by simp; omega⟩
        by_cases hji : j < i
        ·exact hl j h1 hji
        ·have : j = i := by omega
         subst this; exact h7
   ·have : i = n := by omega
    subst this
    right
    exact ⟨.inr (), by simp [spec_imGood_b1, tab_len], .inr ⟨rfl, hc, hl⟩⟩) 0 ⟨0, rfl, by omega, fun j h => by omega, fun j _ h => by omega⟩
 have hin : inB 2 12 ((tab n p).length : Int) = true := by rw [tab_len, inB_iff]; omega
 unfold spec_imGood
 rw [yna, Option.bind_some, hin]
 rw [h3]
 rcases h4 with ⟨rfl, h4⟩ | ⟨rfl, h4, h5⟩
 ·exact ⟨false, by simp, by simp [h4]⟩
 ·have hc0 := (h4 0 (by omega)).1
  have hc1 := (h4 (n - 1) (by omega)).1
  have hw : w64 ((n : Int) - 1) = ((n - 1 : Nat) : Int) := w64_pred (by omega) (by omega)
  have t0 : tame (0, 1) := ⟨by decide, by decide, by decide, by decide⟩
  have t1 : tame (1, 1) := ⟨by decide, by decide, by decide, by decide⟩
  simp only [Bool.not_true, Bool.false_eq_true, if_false, Option.bind_some, Sum.elim_inr, spec_imGood_k1, yfd (show 0 < n by omega), spec_raInt, tab_len, hw, idxO_tab (show n - 1 < n by omega), yba _ _ (yqa hc0) t0, yba _ _ (yqa hc1) t1, cmp_zero, zero_iff (yka hc0), one_iff (yka hc1)]
  refine ⟨((p 0).1 == (0, 1)) && ((p (n - 1)).1 == (1, 1)), ?_, ?_⟩
  ·cases ((p 0).1 == ((0, 1) : Rt)) <;> simp
  ·simp only [Bool.and_eq_true, beq_iff_eq]
   exact ⟨fun h => ⟨h4, h5, h.1, h.2⟩, fun h => ⟨h.2.2.1, h.2.2.2⟩⟩
theorem yrc (p : Pt) : impl_isMap_1 p = some (!(coord p.1 && coord p.2)) := by
 unfold impl_isMap_1
 simp only [ypc, Option.bind_some]
 cases coord p.1 <;> cases coord p.2 <;> rfl
theorem yqd (n : Nat) (p : Nat → Pt) (hn : n ≤ 1048576) : impl_xsOf (tab n p) = some (tab n fun i => (p i).1) := by
 have hx := loop_tab (body := impl_xsOf_b1 (tab n p)) n (fun l i => (l, (i : Int))) (fun i => (p i).1) (tab n fun i => (p i).1) (fun i hi => by
  simp only [impl_xsOf_b1, tab_len, idxO_tab hi, show ((i : Int) < (n : Int)) from by omega, decide_true, if_true, Option.bind_some, guardO_bind_pos (yed i (fun i => (p i).1) (p i).1 (by omega)), w64_nat (show i < 9223372036854775807 by omega)]
  rw [guardO_bind_pos (by simp; omega)]) (by simp [impl_xsOf_b1, tab_len])
 unfold impl_xsOf
 rw [show (0 : Int) = ((0 : Nat) : Int) from rfl, hx]; rfl
theorem ycc (n : Nat) (r : Nat → Rt) (hn : n ≤ 1048576) (h1 : 1 ≤ n) (hr : ∀ i, i < n → isRat (r i) = true) : ∃ c, impl_isRising (tab n r) = some c ∧ (c = true ↔ ∀ i, 0 < i → i < n → less (r (i - 1)) (r i) = true) := by
 obtain ⟨y, h3, h4⟩ := loop_run (body := impl_isRising_b1 (tab n r)) (fun x => ∃ i : Nat, x = (i : Int) ∧ 1 ≤ i ∧ i ≤ n ∧ (∀ j, 0 < j → j < i → less (r (j - 1)) (r j) = true)) (fun x => n - x.toNat)
  (fun y => (y = .inl false ∧ ¬ ∀ i, 0 < i → i < n → less (r (i - 1)) (r i) = true) ∨ (y = .inr () ∧ ∀ i, 0 < i → i < n → less (r (i - 1)) (r i) = true)) (fun x ⟨i, e, hi0, hi, hl⟩ => by
   subst e
   by_cases hlt : i < n
   ·simp only [impl_isRising_b1, tab_len, idxO_tab hlt, w64_pred (show 0 < i by omega) (by omega), idxO_tab (show i - 1 < n by omega), show ((i : Int) < (n : Int)) from by omega, decide_true, if_true, Option.bind_some, yfa _ _ (tame_of (hr (i - 1) (by omega))) (tame_of (hr i hlt))]
    cases h7 : less (r (i - 1)) (r i)
    ·right; exact ⟨.inl false, by simp, .inl ⟨rfl, fun h => by have := h i (by omega) hlt; rw [h7] at this; cases this⟩⟩
    ·left
     refine ⟨((i + 1 : Nat) : Int), by simp [w64_nat (show i < 9223372036854775807 by omega)], ⟨i + 1, rfl, by omega, hlt, fun j h1 h2 => ?_⟩, by simp; omega⟩
     by_cases hji : j < i
     ·exact hl j h1 hji
     ·have : j = i := by omega
      subst this; exact h7
   ·have : i = n := by omega
    subst this
    right
    exact ⟨.inr (), by simp [impl_isRising_b1, tab_len], .inr ⟨rfl, hl⟩⟩) 1 ⟨1, rfl, by omega, by omega, fun j _ h => by omega⟩
 unfold impl_isRising
 rw [h3]
 rcases h4 with ⟨rfl, h4⟩ | ⟨rfl, h4⟩
 ·exact ⟨false, by simp, by simp [h4]⟩
 ·exact ⟨true, by simp [impl_isRising_k1], fun _ => h4, fun _ => rfl⟩
theorem ygd (n : Nat) (p : Nat → Pt) (h2 : 2 ≤ n) (hn : n ≤ 12) : ∃ c, impl_isMap (tab n p) = some c ∧ (c = true ↔ isMapT n p) := by
 have hin : inB 2 12 ((tab n p).length : Int) = true := by rw [tab_len, inB_iff]; omega
 unfold impl_isMap
 rw [yla, Option.bind_some, hin, yea (tab n p) (fun x0 => impl_isMap_1 x0) _ yrc (by rw [tab_len]; omega)]
 simp only [Bool.not_true, Bool.false_eq_true, if_false, Option.bind_some]
 by_cases hc : ∀ i, i < n → coord (p i).1 = true ∧ coord (p i).2 = true
 ·have hany : ((tab n p).any fun q => !(coord q.1 && coord q.2)) = false := by
   rw [List.any_eq_false]
   intro q hq
   obtain ⟨i, hi, rfl⟩ := tab_mem.1 hq
   simp [(hc i hi).1, (hc i hi).2]
  obtain ⟨c, h3, h4⟩ := ycc n (fun i => (p i).1) (by omega) (by omega) (fun i hi => yka (hc i hi).1)
  have hw : w64 ((n : Int) - 1) = ((n - 1 : Nat) : Int) := w64_pred (by omega) (by omega)
  simp only [hany, Bool.false_eq_true, if_false, yfd (show 0 < n by omega), impl_zero, impl_oneRat, Option.bind_some, tab_len, hw, idxO_tab (show n - 1 < n by omega), yqd n p (by omega), h3, pair_beq (p 0).1 (0, 1), pair_beq (p (n - 1)).1 (1, 1)]
  refine ⟨((p 0).1 == (0, 1)) && (((p (n - 1)).1 == (1, 1)) && c), ?_, ?_⟩
  ·cases ((p 0).1 == ((0, 1) : Rt)) <;> cases ((p (n - 1)).1 == ((1, 1) : Rt)) <;> simp
  ·simp only [Bool.and_eq_true, beq_iff_eq, h4]
   exact ⟨fun h => ⟨hc, h.2.2, h.1, h.2.1⟩, fun h => ⟨h.2.2.1, h.2.2.2, h.2.1⟩⟩
 ·have hany : ((tab n p).any fun q => !(coord q.1 && coord q.2)) = true := by
   refine Classical.byContradiction fun hno => hc fun i hi => ?_
   have : ((tab n p).any fun q => !(coord q.1 && coord q.2)) = false := by simpa using hno
   have := List.any_eq_false.1 this (p i) (tab_mem.2 ⟨i, hi, rfl⟩)
   simpa using this
  exact ⟨false, by rw [hany]; rfl, ⟨fun h => (by cases h), fun h => absurd h.1 hc⟩⟩
theorem yrd (f : List Pt) (hl : f.length ≤ 4611686018427387904) : ∃ c, spec_imGood f = some c ∧ impl_isMap f = some c ∧ (c = true → ∃ n p, f = tab n p ∧ 2 ≤ n ∧ n ≤ 12 ∧ isMapT n p) := by
 cases h : inB 2 12 (f.length : Int)
 ·exact ⟨false, by simp [spec_imGood, yna, h], by simp [impl_isMap, yla, h], by simp⟩
 ·have hb := inB_iff.1 h
  have e : f = tab f.length (fun i => f.getD i ((0, 0), (0, 0))) := tab_eta f
  obtain ⟨c, h1, h2⟩ := yqc f.length (fun i => f.getD i ((0, 0), (0, 0))) (by omega) (by omega)
  obtain ⟨d, h3, h4⟩ := ygd f.length (fun i => f.getD i ((0, 0), (0, 0))) (by omega) (by omega)
  rw [← e] at h1 h3
  have hcd : d = c := by
   have h5 : d = true ↔ c = true := h4.trans h2.symm
   cases c <;> cases d
   ·rfl
   ·have := h5.1 rfl; cases this
   ·have := h5.2 rfl; cases this
   ·rfl
  subst hcd
  exact ⟨d, h1, h3, fun hd => ⟨f.length, _, e, by omega, by omega, h2.1 hd⟩⟩
end Go.PV

/-
 Plain laws: the variation of a map.
 Conditions: none.
-/
set_option linter.all false
namespace Go.PV
def sumD (r : Nat → Rt) : Nat → Option Rt
 | 0 => some (0, 1)
 | k + 1 => (sumD r k).bind fun s => (distQ (r k) (r (k + 1))).bind fun d => addQ s d
end Go.PV

/-
 Plain laws: slopes and laps of a map.
 Conditions: none.
-/
set_option linter.all false
namespace Go.PV
structure LowOk (n d : Int) (r : Rt) : Prop where
 eq : lowQ n d = some r
 rat : isRat r = true
 num : r.1.natAbs ≤ n.natAbs
 den : 1 ≤ r.2 ∧ r.2 ≤ d
 pos : 0 < n → 0 < r.1
 neg : n < 0 → r.1 < 0
 zer : n = 0 → r.1 = 0
theorem ycb {n d : Int} (h1 : 0 ≤ n) (h2 : n ≤ 1000000000) (h3 : 1 ≤ d) (h4 : d ≤ 1000000000) : ∃ r, LowOk n d r := by
 have hg : 0 < Int.gcd n d := Int.gcd_pos_of_ne_zero_right _ (by omega)
 have hdn : ¬ d < 0 := by omega
 have hr := yxd h1 h2 h3 h4
 have e : lowest n d = if isRat (Int.tdiv n (Int.gcd n d : Int), Int.tdiv d (Int.gcd n d : Int)) = true then ((Int.tdiv n (Int.gcd n d : Int), Int.tdiv d (Int.gcd n d : Int)), true) else ((0, 0), false) := by
  unfold lowest; simp only [if_neg hdn]
 have hrat : isRat (Int.tdiv n (Int.gcd n d : Int), Int.tdiv d (Int.gcd n d : Int)) = true := by
  refine Classical.byContradiction fun hno => ?_
  rw [e, if_neg hno] at hr
  exact absurd hr (by decide)
 rw [if_pos hrat] at e
 have e1 : Int.tdiv n (Int.gcd n d : Int) = n / (Int.gcd n d : Int) := Int.tdiv_eq_ediv_of_nonneg h1
 have e2 : Int.tdiv d (Int.gcd n d : Int) = d / (Int.gcd n d : Int) := Int.tdiv_eq_ediv_of_nonneg (by omega)
 have hgn : 0 < n → (Int.gcd n d : Int) ≤ n := fun h => by
  have := Nat.gcd_le_left d.natAbs (show 0 < n.natAbs by omega)
  have e : Int.gcd n d = Nat.gcd n.natAbs d.natAbs := rfl
  omega
 refine ⟨_, ⟨by unfold lowQ; rw [e]; rfl, hrat, ?_, ⟨(isRat_iff.1 hrat).1, ?_⟩, fun h => ?_, fun h => by omega, fun h => by subst h; simp⟩⟩
 ·exact ymd _ _
 ·show Int.tdiv d _ ≤ d
  have := ymd d (Int.gcd n d : Int)
  have h5 := (isRat_iff.1 hrat).1
  simp only at h5
  omega
 ·show 0 < Int.tdiv n _
  rw [e1]
  exact Int.ediv_pos_of_pos_of_dvd h (by omega) (Int.gcd_dvd_left ..)
theorem yae {n d : Int} (h1 : -1000000000 ≤ n) (h2 : n ≤ 1000000000) (h3 : 1 ≤ d) (h4 : d ≤ 1000000000) : ∃ r, LowOk n d r := by
 by_cases hn : 0 ≤ n
 ·exact ycb hn h2 h3 h4
 ·obtain ⟨r, h⟩ := ycb (n := -n) (d := d) (by omega) (by omega) h3 h4
  have e := lowQ_neg (n := -n) (d := d) (by omega)
  rw [Int.neg_neg, h.eq] at e
  have hr := yec h.rat
  have := h.pos (by omega)
  have := h.num
  exact ⟨(-r.1, r.2), ⟨e, by rw [Int.zero_sub] at hr; exact hr, by show (-r.1).natAbs ≤ _; omega, h.den, fun h => by omega, fun h => by show -r.1 < 0; omega, fun h => by omega⟩⟩
theorem coord_bd {r : Rt} (h : coord r = true) : 0 ≤ r.1 ∧ r.1 ≤ r.2 ∧ 1 ≤ r.2 ∧ r.2 ≤ 100 := by
 simp only [coord, isUnit, Bool.and_eq_true, inB_iff, decide_eq_true_eq] at h
 have := isRat_iff.1 h.1.1
 omega
theorem mul_bd {a b A B : Int} (h1 : -A ≤ a) (h2 : a ≤ A) (h3 : -B ≤ b) (h4 : b ≤ B) (hA : 0 ≤ A) (hB : 0 ≤ B) : -(A * B) ≤ a * b ∧ a * b ≤ A * B := by
 have h5 : (a * b).natAbs ≤ A.natAbs * B.natAbs := by rw [Int.natAbs_mul]; exact Nat.mul_le_mul (by omega) (by omega)
 have h6 : ((A.natAbs * B.natAbs : Nat) : Int) = A * B := by rw [Int.natCast_mul]; rw [Int.natAbs_of_nonneg hA, Int.natAbs_of_nonneg hB]
 omega
def small (r : Rt) : Prop := isRat r = true ∧ -500 ≤ r.1 ∧ r.1 ≤ 500 ∧ 1 ≤ r.2 ∧ r.2 ≤ 100
theorem ywb {r : Rt} (h : coord r = true) : small r := by
 have := coord_bd h
 exact ⟨yka h, by omega, by omega, by omega, by omega⟩
theorem ybe {a b : Rt} (ha : small a) (hb : small b) : ∃ r, LowOk (a.1 * b.2 - b.1 * a.2) (a.2 * b.2) r ∧ subQ a b = some r ∧ r.1.natAbs ≤ 100000 ∧ r.2 ≤ 10000 := by
 obtain ⟨_, a1, a2, a3, a4⟩ := ha
 obtain ⟨_, b1, b2, b3, b4⟩ := hb
 have m1 := mul_bd (a := a.1) (b := b.2) (A := 500) (B := 100) (by omega) (by omega) (by omega) (by omega) (by omega) (by omega)
 have m2 := mul_bd (a := b.1) (b := a.2) (A := 500) (B := 100) (by omega) (by omega) (by omega) (by omega) (by omega) (by omega)
 have m3 := mul_bd (a := a.2) (b := b.2) (A := 100) (B := 100) (by omega) (by omega) (by omega) (by omega) (by omega) (by omega)
 have p3 : 0 < a.2 * b.2 := Int.mul_pos (by omega) (by omega)
 obtain ⟨r, hr⟩ := yae (n := a.1 * b.2 - b.1 * a.2) (d := a.2 * b.2) (by omega) (by omega) (by omega) (by omega)
 have h5 := hr.num
 have h6 := hr.den
 exact ⟨r, hr, hr.eq, by omega, by omega⟩
def slopeQ (p q : Pt) : Rt := (((subQ q.2 p.2).bind fun u => (subQ q.1 p.1).bind fun v => divQ u v)).getD (0, 0)
structure SlopeOk (p q : Pt) (u v : Rt) : Prop where
 up : subQ q.2 p.2 = some u
 far : subQ q.1 p.1 = some v
 ru : isRat u = true
 rv : isRat v = true
 div : divQ u v = some (slopeQ p q)
 rs : isRat (slopeQ p q) = true
 ub : u.1.natAbs ≤ 100000 ∧ u.2 ≤ 10000
 vb : v.1.natAbs ≤ 10000 ∧ v.2 ≤ 10000
 vp : 0 < v.1
 sg : (0 < (slopeQ p q).1 ↔ 0 < u.1) ∧ ((slopeQ p q).1 < 0 ↔ u.1 < 0)
theorem slope_ok {p q : Pt} (hp1 : coord p.1 = true) (hp2 : small p.2) (hq1 : coord q.1 = true) (hq2 : small q.2) (hl : less p.1 q.1 = true) : ∃ u v, SlopeOk p q u v := by
 obtain ⟨u, hu, e1, u1, u2⟩ := ybe hq2 hp2
 obtain ⟨v, hv, e2, v1', v2⟩ := ybe (ywb hq1) (ywb hp1)
 have v1 : v.1.natAbs ≤ 10000 := by
  have h1 := hv.num
  obtain ⟨a1, a2, a3, a4⟩ := coord_bd hq1
  obtain ⟨b1, b2, b3, b4⟩ := coord_bd hp1
  have m1 := mul_bd (a := q.1.1) (b := p.1.2) (A := 100) (B := 100) (by omega) (by omega) (by omega) (by omega) (by omega) (by omega)
  have m2 := mul_bd (a := p.1.1) (b := q.1.2) (A := 100) (B := 100) (by omega) (by omega) (by omega) (by omega) (by omega) (by omega)
  have p1 : 0 ≤ q.1.1 * p.1.2 := Int.mul_nonneg a1 (by omega)
  have p2 : 0 ≤ p.1.1 * q.1.2 := Int.mul_nonneg b1 (by omega)
  omega
 have hlt : p.1.1 * q.1.2 < q.1.1 * p.1.2 := by simpa [less] using hl
 have hvp := hv.pos (by omega)
 have hud := hu.den
 have hvd := hv.den
 have m1 := mul_bd (a := u.1) (b := v.2) (A := 100000) (B := 10000) (by omega) (by omega) (by omega) (by omega) (by omega) (by omega)
 have m2 := mul_bd (a := u.2) (b := v.1) (A := 10000) (B := 10000) (by omega) (by omega) (by omega) (by omega) (by omega) (by omega)
 have m3 : 0 < u.2 * v.1 := Int.mul_pos (by omega) hvp
 obtain ⟨s, hs⟩ := yae (n := u.1 * v.2) (d := u.2 * v.1) (by omega) (by omega) (by omega) (by omega)
 have e3 : divQ u v = some s := by unfold divQ; rw [if_neg (by omega)]; exact hs.eq
 have e4 : slopeQ p q = s := by unfold slopeQ; rw [e1, e2]; simp [e3]
 refine ⟨u, v, ⟨e1, e2, hu.rat, hv.rat, by rw [e4]; exact e3, by rw [e4]; exact hs.rat, ⟨u1, u2⟩, ⟨v1, v2⟩, hvp, ?_⟩⟩
 rw [e4]
 have hv2 : 0 < v.2 := by omega
 rcases Int.lt_trichotomy u.1 0 with h | h | h
 ·have h1 : u.1 * v.2 < 0 := Int.mul_neg_of_neg_of_pos h hv2
  have := hs.neg h1
  constructor <;> constructor <;> omega
 ·have h1 : u.1 * v.2 = 0 := by rw [h, Int.zero_mul]
  have := hs.zer h1
  constructor <;> constructor <;> omega
 ·have h1 : 0 < u.1 * v.2 := Int.mul_pos h hv2
  have := hs.pos h1
  constructor <;> constructor <;> omega
theorem ysd {p q : Pt} {u v : Rt} (hp1 : coord p.1 = true) (hp2 : small p.2) (hq1 : coord q.1 = true) (hq2 : small q.2) (h : SlopeOk p q u v) (bad : Bool) : impl_calc_slope bad p q = some (slopeQ p q, bad) := by
 unfold impl_calc_slope
 rw [yvb bad hq2.1 hp2.1, Option.bind_some, h.up]
 simp only [cK]
 rw [yvb bad (yka hq1) (yka hp1), Option.bind_some, h.far]
 simp only [cK]
 rw [yhe bad h.ru h.rv, Option.bind_some, h.div]
 rfl
theorem ysc {p q : Pt} {u v : Rt} (hp1 : coord p.1 = true) (hp2 : small p.2) (hq1 : coord q.1 = true) (hq2 : small q.2) (h : SlopeOk p q u v) : spec_imSlope p q = some (slopeQ p q) := by
 unfold spec_imSlope
 rw [ybb hq2.1 hp2.1, Option.bind_some, h.up]
 simp only [unO]
 rw [ybb (yka hq1) (yka hp1), Option.bind_some, h.far]
 simp only [unO]
 rw [ypd h.ru h.rv, Option.bind_some, h.div]
 rfl
section
variable {n : Nat} {p : Nat → Pt}
def slopesT (n : Nat) (p : Nat → Pt) : List Rt := tab (n - 1) fun i => slopeQ (p i) (p (i + 1))
def strictB (n : Nat) (p : Nat → Pt) : Bool := (slopesT n p).all fun s => !(s.1 == 0)
end
end Go.PV

/-
 Plain laws: values of maps and lifts.
 Conditions: none.
-/
set_option linter.all false
namespace Go.PV
structure Curve (n : Nat) (p : Nat → Pt) : Prop where
 lo : 2 ≤ n
 hi : n ≤ 12
 x : ∀ i, i < n → coord (p i).1 = true
 y : ∀ i, i < n → small (p i).2
 up : ∀ i, 0 < i → i < n → less (p (i - 1)).1 (p i).1 = true
 fst : (p 0).1 = (0, 1)
 lst : (p (n - 1)).1 = (1, 1)
theorem Curve.of_map {n : Nat} {p : Nat → Pt} (h : isMapT n p) (h2 : 2 ≤ n) (hn : n ≤ 12) : Curve n p :=
 ⟨h2, hn, fun i hi => (h.1 i hi).1, fun i hi => ywb (h.1 i hi).2, h.2.1, h.2.2.1, h.2.2.2⟩
def CR (bad : Bool) (o : Option Rt) (v : Rt × Bool) : Prop := isRat v.1 = true ∧ match o with
 | some r => v = (r, bad)
 | none => v.2 = true
theorem CR_cK {bad : Bool} {o : Option Rt} (h : ∀ r, o = some r → isRat r = true) : CR bad o (cK bad o) := by
 refine ⟨cK_rat h, ?_⟩
 cases o <;> rfl
theorem CR_bad {o : Option Rt} {v : Rt × Bool} (h : CR true o v) : v.2 = true := by
 obtain ⟨_, h⟩ := h
 cases o with
 | some r => rw [h]
 | none => exact h
theorem CR_bind {bad : Bool} {o : Option Rt} {v v' : Rt × Bool} {g : Rt → Option Rt} (h : CR bad o v) (h' : CR v.2 (g v.1) v') : CR bad (o.bind g) v' := by
 obtain ⟨h1, h2⟩ := h
 refine ⟨h'.1, ?_⟩
 cases o with
 | some r =>
  simp only at h2
  subst h2
  exact h'.2
 | none =>
  simp only at h2
  simp only [Option.bind_none]
  have := h'
  rw [h2] at this
  exact CR_bad this
section
variable {n : Nat} {p : Nat → Pt}
theorem Curve.piece (h : Curve n p) {i : Nat} (hi : i + 1 < n) : ∃ u v, SlopeOk (p i) (p (i + 1)) u v :=
 slope_ok (h.x i (by omega)) (h.y i (by omega)) (h.x (i + 1) hi) (h.y (i + 1) hi) (h.up (i + 1) (by omega) hi)
structure AtJ (n : Nat) (p : Nat → Pt) (x : Rt) (j : Nat) : Prop where
 lt : j < n
 bef : ∀ k, k < j → less (p k).1 x = true
 at' : less (p j).1 x = false
theorem findJ (h : Curve n p) {x : Rt} (hx : isUnit x = true) : ∃ j, AtJ n p x j := by
  have hr : isRat x = true := by simp only [isUnit, Bool.and_eq_true] at hx; exact hx.1
  have hle : less (p (n - 1)).1 x = false := by
    rw [h.lst]
    simp only [isUnit, Bool.and_eq_true, inB_iff] at hx
    have := isRat_iff.1 hr
    simp only [less, decide_eq_false_iff_not]
    omega
  have : ∀ k, k < n → (∃ j, AtJ n p x j) ∨ ∀ i, i ≤ k → less (p i).1 x = true := by
    intro k
    induction k with
    | zero =>
      intro hk
      cases h0 : less (p 0).1 x
      · exact .inl ⟨0, hk, fun k hk => by omega, h0⟩
      · exact .inr fun i hi => by have : i = 0 := by omega
                                  subst this; exact h0
    | succ k ih =>
      intro hk
      rcases ih (by omega) with h1 | h1
      · exact .inl h1
      · cases h0 : less (p (k + 1)).1 x
        · exact .inl ⟨k + 1, hk, fun i hi => h1 i (by omega), h0⟩
        · refine .inr fun i hi => ?_
          by_cases hik : i ≤ k
          · exact h1 i hik
          · have : i = k + 1 := by omega
            subst this; exact h0
  have h2 := h.lo
  rcases this (n - 1) (by omega) with h1 | h1
  · exact h1
  · have := h1 (n - 1) (Nat.le_refl _)
    rw [hle] at this; cases this
theorem AtJ.uniq {x : Rt} {j k : Nat} (h : AtJ n p x j) (h' : AtJ n p x k) : j = k := by
 rcases Nat.lt_trichotomy j k with h1 | h1 | h1
 ·have := h'.bef j h1; rw [h.at'] at this; cases this
 ·exact h1
 ·have := h.bef k h1; rw [h'.at'] at this; cases this
theorem index_Pt (f : Pt → Option Bool) (q : Nat → Bool) (hf : ∀ i, i < n → f (p i) = some (q i)) (j : Nat) (hj : j < n) (hn : n ≤ 1048576) (h1 : ∀ k, k < j → q k = false) (h2 : q j = true) : slices_IndexFunc_Limpl_Point_impl_Point (tab n p) f = some (j : Int) := by
 have hx := loop_idx (body := slices_IndexFunc_Limpl_Point_impl_Point_b1 (tab n p) f) j (fun i => (i : Int)) (.inl (j : Int)) (fun i hi => by
  simp only [slices_IndexFunc_Limpl_Point_impl_Point_b1, tab_len, idxO_tab (show i < n by omega), hf i (by omega), h1 i hi, Option.bind_some, show ((i : Int) < (n : Int)) from by omega, decide_true, if_true, w64_nat (show i < 9223372036854775807 by omega)]
  simp) (by
  simp only [slices_IndexFunc_Limpl_Point_impl_Point_b1, tab_len, idxO_tab hj, hf j hj, h2, Option.bind_some, show ((j : Int) < (n : Int)) from by omega, decide_true, if_true])
 unfold slices_IndexFunc_Limpl_Point_impl_Point
 rw [show (0 : Int) = ((0 : Nat) : Int) from rfl, hx]
 rfl
theorem ytc (h : Curve n p) {x : Rt} (hx : isRat x = true) {j : Nat} (hj : AtJ n p x j) : impl_pieceAt (tab n p) x = some ((j - 1 : Nat) : Int) := by
 have h1 := h.hi
 have hlt := hj.lt
 unfold impl_pieceAt
 rw [index_Pt (fun x0 => impl_pieceAt_1 x0 x) (fun i => !less (p i).1 x) (fun i hi => by simp [impl_pieceAt_1, yfa _ _ (yqa (h.x i hi)) (tame_of hx)]) j hlt (by omega) (fun k hk => by simp [hj.bef k hk]) (by simp [hj.at'])]
 rw [Option.bind_some, w64_id (by omega) (by omega)]
 congr 1
 split <;> omega
theorem yuc (h : Curve n p) {x : Rt} (hx : isRat x = true) {j : Nat} (hj : AtJ n p x j) : spec_imPiece (tab n p) x = some ((j - 1 : Nat) : Int) := by
 have h1 := h.hi
 have h2 := h.lo
 have hlt := hj.lt
 have hx := loop_idx (body := spec_imPiece_b1 (tab n p) x) (j - 1) (fun i => (i : Int)) ((j - 1 : Nat) : Int) (fun i hi => by
  have e2 : w64 ((i : Int) + 2) = ((i + 2 : Nat) : Int) := by rw [w64_id (by omega) (by omega)]; omega
  simp only [spec_imPiece_b1, tab_len, e2, w64_nat (show i < 9223372036854775807 by omega), idxO_tab (show i + 1 < n by omega), Option.bind_some, yba _ _ (yqa (h.x (i + 1) (by omega))) (tame_of hx), show (((i + 2 : Nat) : Int) < (n : Int)) from by omega, decide_true, if_true]
  have : decide (cmp (p (i + 1)).1 x < 0) = true := by
   have := hj.bef (i + 1) (by omega)
   simp only [less, decide_eq_true_eq] at this
   simp [cmp, this]
  rw [this]; rfl) (by
  have e2 : w64 (((j - 1 : Nat) : Int) + 2) = ((j - 1 + 2 : Nat) : Int) := by rw [w64_id (by omega) (by omega)]; omega
  simp only [spec_imPiece_b1, tab_len, e2]
  by_cases hc : j - 1 + 2 < n
  ·simp only [show (((j - 1 + 2 : Nat) : Int) < (n : Int)) from by omega, decide_true, if_true, w64_nat (show j - 1 < 9223372036854775807 by omega), idxO_tab (show j - 1 + 1 < n by omega), Option.bind_some, yba _ _ (yqa (h.x (j - 1 + 1) (by omega))) (tame_of hx)]
   have hno : less (p (j - 1 + 1)).1 x = false := by
    by_cases hj0 : j = 0
    ·subst hj0
     -- x is not behind the first point, so not behind the second
     have h3 := hj.at'
     have h4 := h.up 1 (by omega) (by omega)
     rw [h.fst] at h3 h4
     obtain ⟨x1, x2, x3, x4, _⟩ := isRat_iff.1 hx
     have c := coord_bd (h.x 1 (by omega))
     simp only [less, decide_eq_false_iff_not, decide_eq_true_eq] at h3 h4 ⊢
     simp only [Nat.zero_sub, Nat.zero_add, Nat.sub_self] at h4 ⊢
     have p1 : 0 ≤ (p 1).1.1 * x.2 := Int.mul_nonneg c.1 (by omega)
     have p2 : x.1 * (p 1).1.2 ≤ 0 := Int.mul_nonpos_of_nonpos_of_nonneg (by omega) (by omega)
     omega
    ·rw [show j - 1 + 1 = j by omega]; exact hj.at'
   have : decide (cmp (p (j - 1 + 1)).1 x < 0) = false := by
    simp only [less, decide_eq_false_iff_not] at hno
    simp only [cmp, hno, if_false]
    split <;> rfl
   rw [this]; rfl
  ·simp only [show ¬ (((j - 1 + 2 : Nat) : Int) < (n : Int)) from by omega, decide_false, Bool.false_eq_true, if_false, Option.bind_some])
 unfold spec_imPiece
 rw [show (0 : Int) = ((0 : Nat) : Int) from rfl, hx]
 rfl
def onQ (p q : Pt) (x : Rt) : Option Rt := (subQ x p.1).bind fun far => (mulQ (slopeQ p q) far).bind fun up => addQ p.2 up
theorem yqe (a b : Rt) : mulQ a b = mulQ b a := by unfold mulQ; rw [Int.mul_comm, Int.mul_comm a.2]
theorem yyd {q : Pt} {s x : Rt} (hq1 : isRat q.1 = true) (hq2 : isRat q.2 = true) (hs : isRat s = true) (hx : isRat x = true) (bad : Bool) : ∃ v, impl_calc_line bad q s x = some v ∧ CR bad ((subQ x q.1).bind fun far => (mulQ s far).bind fun up => addQ q.2 up) v := by
 have c1 : CR bad (subQ x q.1) (cK bad (subQ x q.1)) := CR_cK fun _ => subQ_rat
 have c2 := CR_cK (bad := (cK bad (subQ x q.1)).2) (o := mulQ s (cK bad (subQ x q.1)).1) fun _ => mulQ_rat
 have c3 := CR_cK (bad := (cK (cK bad (subQ x q.1)).2 (mulQ s (cK bad (subQ x q.1)).1)).2) (o := addQ q.2 (cK (cK bad (subQ x q.1)).2 (mulQ s (cK bad (subQ x q.1)).1)).1) fun _ => addQ_rat
 refine ⟨_, ?_, CR_bind c1 (CR_bind (g := fun up => addQ q.2 up) c2 c3)⟩
 unfold impl_calc_line
 rw [yvb bad hx hq1, Option.bind_some, yge _ hs c1.1, Option.bind_some, yfe _ hq2 c2.1]
 rfl
theorem ytd (h : Curve n p) {x : Rt} (hx : isRat x = true) {j : Nat} (hj : AtJ n p x j) (bad : Bool) : ∃ v, impl_calc_value bad (tab n p) x = some v ∧ CR bad (onQ (p (j - 1)) (p (j - 1 + 1)) x) v := by
 have h1 := h.hi
 have h2 := h.lo
 have hlt := hj.lt
 have hj1 : j - 1 + 1 < n := by omega
 obtain ⟨u, v, hs⟩ := h.piece hj1
 obtain ⟨w, e1, e2⟩ := yyd (q := p (j - 1)) (s := slopeQ (p (j - 1)) (p (j - 1 + 1))) (x := x) (yka (h.x (j - 1) (by omega))) (h.y (j - 1) (by omega)).1 hs.rs hx bad
 refine ⟨w, ?_, e2⟩
 unfold impl_calc_value
 rw [ytc h hx hj]
 simp only [Option.bind_some, w64_nat (show j - 1 < 9223372036854775807 by omega), idxO_tab (show j - 1 < n by omega), idxO_tab hj1, ysd (h.x (j - 1) (by omega)) (h.y (j - 1) (by omega)) (h.x (j - 1 + 1) hj1) (h.y (j - 1 + 1) hj1) hs bad, e1]
theorem yvc (s : Rt) : spec_raMul (0, 0) s = some ((0, 0), false) := by
 unfold spec_raMul spec_raMake
 have : w64 (0 * s.2) = 0 := by rw [Int.zero_mul]; rfl
 simp only [this]
 rfl
theorem yzd (h : Curve n p) {x : Rt} (hx : isRat x = true) {j : Nat} (hj : AtJ n p x j) : spec_imAt (tab n p) x = some (unO (onQ (p (j - 1)) (p (j - 1 + 1)) x)) := by
 have h1 := h.hi
 have h2 := h.lo
 have hlt := hj.lt
 have hj1 : j - 1 + 1 < n := by omega
 obtain ⟨u, v, hs⟩ := h.piece hj1
 have rx := yka (h.x (j - 1) (by omega))
 unfold spec_imAt
 rw [yuc h hx hj]
 simp only [Option.bind_some, w64_nat (show j - 1 < 9223372036854775807 by omega), idxO_tab (show j - 1 < n by omega), idxO_tab hj1, spec_imOn, ybb hx rx, ysc (h.x (j - 1) (by omega)) (h.y (j - 1) (by omega)) (h.x (j - 1 + 1) hj1) (h.y (j - 1 + 1) hj1) hs, onQ]
 cases hsq : subQ x (p (j - 1)).1 with
 | none =>
  simp only [unO, yvc, Option.bind_some, Option.bind_none]
  rfl
 | some far =>
  have hf := subQ_rat hsq
  simp only [unO, yod hf hs.rs, Option.bind_some, yqe far]
  cases hmq : mulQ (slopeQ (p (j - 1)) (p (j - 1 + 1))) far with
  | none => rfl
  | some up =>
   simp only [unO, Option.bind_some, ynd (h.y (j - 1) (by omega)).1 (mulQ_rat hmq)]
   rfl
end
end Go.PV

/-
 Plain laws: values of lifts.
 Conditions: none.
-/
set_option linter.all false
namespace Go.PV
structure LiftT (n : Nat) (p : Nat → Pt) : Prop where
 cur : Curve n p
 mono : ∀ i, 0 < i → i < n → less (p i).2 (p (i - 1)).2 = false
 lstY : (p (n - 1)).2 = ((p 0).2.1 + (p 0).2.2, (p 0).2.2)
 by5 : ∀ i, i < n → -5 * (p i).2.2 ≤ (p i).2.1 ∧ (p i).2.1 ≤ 5 * (p i).2.2
def flr (x : Rt) : Int := floorDiv x.1 x.2
def part (x : Rt) : Rt := (x.1 - flr x * x.2, x.2)
structure PartOk (x : Rt) : Prop where
 rat : isRat (part x) = true
 lo : 0 ≤ (part x).1
 hi : (part x).1 < (part x).2
 spec : spec_raFloor x = some (flr x)
 impl : impl_floor x = some (flr x)
 bd : flr x * x.2 ≤ x.1 ∧ x.1 < flr x * x.2 + x.2
section
variable {n : Nat} {p : Nat → Pt}
open Classical in
noncomputable def atQ (n : Nat) (p : Nat → Pt) (x : Rt) : Option Rt := if h : ∃ j, AtJ n p x j then onQ (p (Classical.choose h - 1)) (p (Classical.choose h - 1 + 1)) x else none
theorem atQ_eq {x : Rt} {j : Nat} (h : AtJ n p x j) : atQ n p x = onQ (p (j - 1)) (p (j - 1 + 1)) x := by
 have hx : ∃ j, AtJ n p x j := ⟨j, h⟩
 unfold atQ
 rw [dif_pos hx, AtJ.uniq (Classical.choose_spec hx) h]
theorem onQ_rat {q r : Pt} {x y : Rt} (h : onQ q r x = some y) : isRat y = true := by
 unfold onQ at h
 obtain ⟨a, _, h⟩ := Option.bind_eq_some_iff.1 h
 obtain ⟨b, _, h⟩ := Option.bind_eq_some_iff.1 h
 exact addQ_rat h
theorem atQ_rat {x y : Rt} (h : atQ n p x = some y) : isRat y = true := by
 unfold atQ at h
 split at h
 ·exact onQ_rat h
 ·cases h
theorem spec_at (h : Curve n p) {x : Rt} (hx : isUnit x = true) : spec_imAt (tab n p) x = some (unO (atQ n p x)) := by
 have hr : isRat x = true := by simp only [isUnit, Bool.and_eq_true] at hx; exact hx.1
 obtain ⟨j, hj⟩ := findJ h hx
 rw [yzd h hr hj, atQ_eq hj]
theorem impl_at (h : Curve n p) {x : Rt} (hx : isUnit x = true) (bad : Bool) : ∃ v, impl_calc_value bad (tab n p) x = some v ∧ CR bad (atQ n p x) v := by
 have hr : isRat x = true := by simp only [isUnit, Bool.and_eq_true] at hx; exact hx.1
 obtain ⟨j, hj⟩ := findJ h hx
 rw [atQ_eq hj]
 exact ytd h hr hj bad
noncomputable def liftQ (n : Nat) (p : Nat → Pt) (x : Rt) : Option Rt := (atQ n p (part x)).bind fun y => addQ y (flr x, 1)
end
end Go.PV

set_option linter.all false
namespace Go.PV
def minStep (a b : Int × Int) : Int × Int := if less b a = true then b else a
def maxStep (a b : Int × Int) : Int × Int := if less a b = true then b else a
def mnN (r : Nat → Int × Int) (i : Nat) : Int × Int := foldN i (fun s j => minStep s (r j)) (r 0)
def mxN (r : Nat → Int × Int) (i : Nat) : Int × Int := foldN i (fun s j => maxStep s (r j)) (r 0)
theorem cmp_lt (a b : Int × Int) : decide (cmp a b < 0) = less a b := by
 unfold cmp less
 by_cases h1 : a.1 * b.2 < b.1 * a.2
 ·simp [h1]
 ·by_cases h2 : a.1 * b.2 > b.1 * a.2 <;> simp [h1, h2]
def ratN (G : Nat → Nat → Int) (v : Nat → Int) (n i : Nat) : Int × Int := (lowest (dotN (G i) v n) (v i)).1
section
variable {n : Nat} {G : Nat → Nat → Int} {v : Nat → Int}
end
def asked (g : List (List Int)) (u : List Int) : Bool := isGraph g && (isVec u && ((u.length : Int) == (g.length : Int)))
end Go.PV

set_option linter.all false
namespace Go.PV
theorem cmp_le (a b : Int × Int) : decide (cmp a b ≤ 0) = !less b a := by
 unfold cmp less
 by_cases h1 : a.1 * b.2 < b.1 * a.2
 ·have : ¬ b.1 * a.2 < a.1 * b.2 := by omega
  simp [h1, this]
 ·by_cases h2 : a.1 * b.2 > b.1 * a.2
  ·have h3 : b.1 * a.2 < a.1 * b.2 := h2
   simp [h1, h3]
  ·have : ¬ b.1 * a.2 < a.1 * b.2 := by omega
   simp [h1, this]
end Go.PV

/-
 Plain laws: where a lift comes from.
 Conditions: none.
-/
set_option linter.all false
namespace Go.PV
theorem lt_le {a b c : Rt} (ha : isRat a = true) (hb : isRat b = true) (hc : isRat c = true) (h1 : less a b = true) (h2 : less c b = false) : less a c = true := by
 have a2 := (isRat_iff.1 ha).1
 have b2 := (isRat_iff.1 hb).1
 have c2 := (isRat_iff.1 hc).1
 simp only [less, decide_eq_true_eq, decide_eq_false_iff_not] at *
 have m1 := Int.mul_le_mul_of_nonneg_right (show b.1 * c.2 ≤ c.1 * b.2 by omega) (show 0 ≤ a.2 by omega)
 have m2 := Int.mul_lt_mul_of_pos_right h1 (show 0 < c.2 by omega)
 refine Classical.byContradiction fun h3 => ?_
 have m3 := Int.mul_le_mul_of_nonneg_right (show c.1 * a.2 ≤ a.1 * c.2 by omega) (show 0 ≤ b.2 by omega)
 grind
theorem le_le {a b c : Rt} (ha : isRat a = true) (hb : isRat b = true) (hc : isRat c = true) (h1 : less b a = false) (h2 : less c b = false) : less c a = false := by
 cases h : less c a
 ·rfl
 ·have := lt_le hc ha hb h h1
  rw [h2] at this; cases this
def turnK (y x : Rt) : Int := if less (part x) (part y) = true then flr x - flr y - 1 else flr x - flr y
section
variable {n : Nat} {p : Nat → Pt}
def backQ (q r : Pt) (z : Rt) : Option Rt := (subQ z q.2).bind fun u => (divQ u (slopeQ q r)).bind fun v => addQ q.1 v
theorem LiftT.le (h : LiftT n p) : ∀ {i j : Nat}, i ≤ j → j < n → less (p j).2 (p i).2 = false := by
 intro i j hij hj
 induction j with
 | zero =>
  have : i = 0 := by omega
  subst this; simp [less]
 | succ j ih =>
  by_cases he : i = j + 1
  ·subst he; simp [less]
  ·exact le_le (h.cur.y i (by omega)).1 (h.cur.y j (by omega)).1 (h.cur.y (j + 1) hj).1 (ih (by omega) (by omega)) (h.mono (j + 1) (by omega) hj)
structure UpJ (n : Nat) (p : Nat → Pt) (z : Rt) (j : Nat) : Prop where
 pos : 0 < j
 lt : j < n
 bef : ∀ k, k < j → less (p k).2 z = true
 at' : less (p j).2 z = false
structure FlatJ (n : Nat) (p : Nat → Pt) (j : Nat) : Prop where
 pos : 0 < j
 lt : j < n
 same : ∀ k, j < k → k < n → (p (k - 1)).2 = (p k).2
 step : (p (j - 1)).2 ≠ (p j).2
section
variable (h : Curve n p) {z : Rt} (hz : isRat z = true)
include h hz
end
end
end Go.PV

/-
 Plain laws: what fractions stand for.
 Conditions: none.
-/
set_option linter.all false
namespace Go.PV
def val (r : Rt) : Rat := (r.1 : Rat) / (r.2 : Rat)
theorem cast_pos {d : Int} (h : 0 < d) : (0 : Rat) < (d : Rat) := by exact_mod_cast h
theorem val_mul {r : Rt} (h : 0 < r.2) : val r * (r.2 : Rat) = (r.1 : Rat) := by
 have := cast_pos h
 unfold val
 have h2 : (r.2 : Rat) ≠ 0 := by intro h3; rw [h3] at this; exact absurd this (by decide)
 grind
theorem lt_iff {a b c d : Int} (hb : 0 < b) (hd : 0 < d) {x y : Rat} (hx : x * (b : Rat) = (a : Rat)) (hy : y * (d : Rat) = (c : Rat)) : a * d < c * b ↔ x < y := by
 have pb := cast_pos hb
 have pd := cast_pos hd
 have e : ((a * d : Int) : Rat) < ((c * b : Int) : Rat) ↔ a * d < c * b := by exact_mod_cast Iff.rfl
 rw [← e, Rat.intCast_mul, Rat.intCast_mul, ← hx, ← hy]
 constructor
 ·intro h
  refine Classical.byContradiction fun hno => ?_
  have h1 : y ≤ x := by grind
  have h2 := Rat.mul_le_mul_of_nonneg_left h1 (Rat.le_of_lt (Rat.mul_pos pb pd))
  grind
 ·intro h
  have h2 := Rat.mul_lt_mul_of_pos_left h (Rat.mul_pos pb pd)
  grind
theorem less_val {a b : Rt} (ha : 0 < a.2) (hb : 0 < b.2) : less a b = true ↔ val a < val b := by
 rw [← lt_iff ha hb (val_mul ha) (val_mul hb)]
 simp [less]
theorem yie {a b : Rt} (ha : 0 < a.2) (hb : 0 < b.2) : less a b = false ↔ val b ≤ val a := by
 have := less_val ha hb
 cases h : less a b
 ·rw [h] at this
  have : ¬ val a < val b := fun h1 => by have := this.2 h1; cases this
  exact ⟨fun _ => by grind, fun _ => rfl⟩
 ·rw [h] at this
  have := this.1 rfl
  exact ⟨fun h => (by cases h), fun h => (by grind)⟩
section
variable {a b r : Rt} (ha : isRat a = true) (hb : isRat b = true)
include ha hb
end
end Go.PV

/-
 Plain laws: the laps of a map.
 Conditions: none.
-/
set_option linter.all false
namespace Go.PV
abbrev Trip := Nat × Nat × Int
def encT (t : Trip) : List Int := [(t.1 : Int), (t.2.1 : Int), t.2.2]
def lapStep (l : List Trip) (i : Nat) (s : Int) : List Trip := match l.getLast? with
 | some t => if t.2.2 = s then l.dropLast ++ [(t.1, i + 1, s)] else l ++ [(i, i + 1, s)]
 | none => l ++ [(i, i + 1, s)]
def lapsN (σ : Nat → Int) : Nat → List Trip
 | 0 => []
 | i + 1 => lapStep (lapsN σ i) i (σ i)
structure LapInv (σ : Nat → Int) (i : Nat) : Prop where
 len : (lapsN σ i).length ≤ i
 ne : 0 < i → lapsN σ i ≠ []
 bd : ∀ t ∈ lapsN σ i, t.1 < t.2.1 ∧ t.2.1 ≤ i
def sg (n : Int) : Int := if 0 < n then 1 else if n < 0 then -1 else 0
section
variable {m : Nat} {r : Nat → Rt}
end
section
variable {n : Nat} {p : Nat → Pt}
def wayOf (p : Nat → Pt) : Nat → Int := fun i => sg (slopeQ (p i) (p (i + 1))).1
def lapsT (n : Nat) (p : Nat → Pt) : List Trip := lapsN (wayOf p) (n - 1)
end
def lbN (c : Int) : Nat → Int → Int × Bool
 | 0, o => (o, true)
 | k + 1, o => if o * c > 1000000000 then (0, false) else lbN c k (o * c)
def fullB (a b : Rt) : Bool := (a == (0, 1) && b == (1, 1)) || (a == (1, 1) && b == (0, 1))
section
variable {n : Nat} {p : Nat → Pt}
def fullN (p : Nat → Pt) (l : List Trip) : Nat := (l.filter fun t => fullB (p t.1).2 (p t.2.1).2).length
end
end Go.PV

/-
 Plain laws: marks on lists, and that they are held.
 Conditions: none.
-/
set_option linter.all false
namespace Go.PV
section
variable {α : Type}
def marks (w : Nat) (f : Int → α) (n : Nat) (k : Int) : List α := tab n fun i => f (k + (w : Int) * i)
end
def markI (n : Nat) (k : Int) : List Int := marks 1 (fun c => c) n k
def markR (n : Nat) (k : Int) : List (Int × Int) := marks 2 (fun c => (c, c + 1)) n k
end Go.PV

/-
 Plain laws: values of the turning point.
 Conditions: none.
-/
set_option linter.all false
namespace Go.PV
section
variable {n : Nat} {p : Nat → Pt}
noncomputable def vQ (n : Nat) (p : Nat → Pt) (c : Rt) : Nat → Option Rt
 | 0 => some c
 | k + 1 => (vQ n p c k).bind (atQ n p)
noncomputable def vv (n : Nat) (p : Nat → Pt) (c : Rt) (k : Nat) : Rt := (vQ n p c k).getD (0, 0)
variable {c : Rt}
theorem vQ_none {k m : Nat} (h : vQ n p c k = none) (hm : k ≤ m) : vQ n p c m = none := by
  induction m with
  | zero => have : k = 0 := by omega
            subst this; exact h
  | succ m ih =>
    by_cases hk : k = m + 1
    · subst hk; exact h
    · simp [vQ, ih (by omega)]
structure Stop (n : Nat) (p : Nat → Pt) (c : Rt) (m L : Nat) : Prop where
 le : L ≤ m
 some : vQ n p c L = some (vv n p c L)
 stop : L = m ∨ vQ n p c (L + 1) = none
theorem Stop.uniq {m L L' : Nat} (h : Stop n p c m L) (h' : Stop n p c m L') : L = L' := by
 rcases Nat.lt_trichotomy L L' with h1 | h1 | h1
 ·rcases h.stop with h2 | h2
  ·have := h'.le; omega
  ·have := vQ_none h2 (show L + 1 ≤ L' by omega)
   rw [h'.some] at this; cases this
 ·exact h1
 ·rcases h'.stop with h2 | h2
  ·have := h.le; omega
  ·have := vQ_none h2 (show L' + 1 ≤ L by omega)
   rw [h.some] at this; cases this
end
section
variable {n : Nat} {p : Nat → Pt} {t0 t1 : Trip}
end
end Go.PV

set_option linter.all false
namespace Go.PV
def flatP (xs : List Pt) (n : Nat) : Prop := ∃ i a b, 0 < i ∧ i < n ∧ xs[i - 1]? = some a ∧ xs[i]? = some b ∧ a.2 = b.2
end Go.PV

/-
 Plain laws: plateaus.
 Conditions: none.
-/
set_option linter.all false
namespace Go.PV
theorem yeb (xs : List Pt) (hl : xs.length ≤ 4611686018427387904) : laws_eqIntervalS xs xs = some true := by
 have h := loop_idx (body := laws_eqIntervalS_b1 xs xs) xs.length (fun i => (i : Int)) (.inr ()) (fun i hi => by
  simp only [laws_eqIntervalS_b1, idxO_lt hi, laws_eqInterval, yfb, Option.bind_some, w64_nat (show i < 9223372036854775807 by omega), show ((i : Int) < (xs.length : Int)) from by omega, decide_true, if_true]
  simp) (by simp [laws_eqIntervalS_b1])
 unfold laws_eqIntervalS
 rw [show (0 : Int) = ((0 : Nat) : Int) from rfl, h]
 simp [laws_eqIntervalS_k1]
def markV (n : Nat) (k : Int) : List Pt := marks 4 (fun c => ((c, c + 1), (c + 1 + 1, c + 1 + 1 + 1))) n k
end Go.PV

/-
 Plain laws: orbits of lifts.
 Conditions: none.
-/
set_option linter.all false
namespace Go.PV
section
variable {n : Nat} {p : Nat → Pt} {x : Rt}
noncomputable def orbQ (n : Nat) (p : Nat → Pt) (x : Rt) : Nat → Option Rt
 | 0 => some x
 | k + 1 => (orbQ n p x k).bind fun y => if near y = true then liftQ n p y else none
noncomputable def orb (n : Nat) (p : Nat → Pt) (x : Rt) (k : Nat) : Rt := (orbQ n p x k).getD (0, 0)
open Classical in
noncomputable def runR (n : Nat) (p : Nat → Pt) (x : Rt) (m : Nat) : List Rt × Bool := if (orbQ n p x m).isSome = true then (tab (m + 1) (orb n p x), true) else ([], false)
end
def turnB (r : Rt) : Bool := near r && decide (r.2 ≤ 6)
end Go.PV

/-
 Plain laws: orbits of lifts, handed back.
 Conditions: none.
-/
set_option linter.all false
namespace Go.PV
end Go.PV

/-
 Plain laws: how far a lift's points are moved.
 Conditions: none.
-/
set_option linter.all false
namespace Go.PV
def dispF (p : Nat → Pt) (i : Nat) : Rt := (subQ (p i).2 (p i).1).getD (0, 0)
section
variable {n : Nat} {p : Nat → Pt}
end
end Go.PV

/-
 Plain laws: values of lifts keep their order.
 Conditions: none.
-/
set_option linter.all false
namespace Go.PV
section
variable {n : Nat} {p : Nat → Pt}
theorem rt_pos {r : Rt} (h : isRat r = true) : 0 < r.2 := by have := (isRat_iff.1 h).1; omega
theorem Curve.xr (h : Curve n p) {i : Nat} (hi : i < n) : isRat (p i).1 = true := yka (h.x i hi)
theorem Curve.yr (h : Curve n p) {i : Nat} (hi : i < n) : isRat (p i).2 = true := (h.y i hi).1
theorem Curve.xlt (h : Curve n p) : ∀ {i j : Nat}, i < j → j < n → val (p i).1 < val (p j).1 := by
 intro i j hij hj
 obtain ⟨k, rfl⟩ : ∃ k, j = i + 1 + k := ⟨j - (i + 1), by omega⟩
 induction k with
 | zero =>
  have := h.up (i + 1) (by omega) hj
  rw [show i + 1 - 1 = i by omega] at this
  exact (less_val (rt_pos (h.xr (by omega))) (rt_pos (h.xr hj))).1 this
 | succ k ih =>
  have h1 := ih (by omega) (by omega)
  have := h.up (i + 1 + (k + 1)) (by omega) hj
  rw [show i + 1 + (k + 1) - 1 = i + 1 + k by omega] at this
  have h2 := (less_val (rt_pos (h.xr (by omega))) (rt_pos (h.xr hj))).1 this
  grind
theorem LiftT.yle (h : LiftT n p) : ∀ {i j : Nat}, i ≤ j → j < n → val (p i).2 ≤ val (p j).2 := by
 intro i j hij hj
 obtain ⟨k, rfl⟩ : ∃ k, j = i + k := ⟨j - i, by omega⟩
 induction k with
 | zero => exact Rat.le_refl
 | succ k ih =>
  have h1 := ih (by omega) (by omega)
  have := h.mono (i + (k + 1)) (by omega) hj
  rw [show i + (k + 1) - 1 = i + k by omega] at this
  have h2 := (yie (rt_pos (h.cur.yr hj)) (rt_pos (h.cur.yr (by omega)))).1 this
  exact Rat.le_trans h1 h2
structure OnP (p : Nat → Pt) (m : Nat) (x y : Rt) : Prop where
 lo : val (p m).1 ≤ val x
 hi : val x ≤ val (p (m + 1)).1
 eq : (val y - val (p m).2) * (val (p (m + 1)).1 - val (p m).1) = (val (p (m + 1)).2 - val (p m).2) * (val x - val (p m).1)
theorem OnP.range (h : LiftT n p) {m : Nat} (hm : m + 1 < n) {x y : Rt} (hp : OnP p m x y) : val (p m).2 ≤ val y ∧ val y ≤ val (p (m + 1)).2 := by
 have hx := h.cur.xlt (show m < m + 1 by omega) hm
 have hy := h.yle (show m ≤ m + 1 by omega) hm
 obtain ⟨lo, hi, eq⟩ := hp
 have d : 0 < val (p (m + 1)).1 - val (p m).1 := by grind
 constructor
 ·refine Classical.byContradiction fun hno => ?_
  have h1 : val y - val (p m).2 < 0 := by grind
  have h2 := Rat.mul_lt_mul_of_pos_right h1 d
  have h3 := Rat.mul_nonneg (show 0 ≤ val (p (m + 1)).2 - val (p m).2 by grind) (show 0 ≤ val x - val (p m).1 by grind)
  grind
 ·refine Classical.byContradiction fun hno => ?_
  have h1 : val (p (m + 1)).2 - val (p m).2 < val y - val (p m).2 := by grind
  have h2 := Rat.mul_lt_mul_of_pos_right h1 d
  have h3 := Rat.mul_le_mul_of_nonneg_left (show val x - val (p m).1 ≤ val (p (m + 1)).1 - val (p m).1 by grind) (show 0 ≤ val (p (m + 1)).2 - val (p m).2 by grind)
  grind
theorem OnP.mono (h : LiftT n p) {m : Nat} (hm : m + 1 < n) {x y x' y' : Rt} (hp : OnP p m x y) (hp' : OnP p m x' y') (hx : val x ≤ val x') : val y ≤ val y' := by
 have d0 := h.cur.xlt (show m < m + 1 by omega) hm
 have hy := h.yle (show m ≤ m + 1 by omega) hm
 have e := hp.eq
 have e' := hp'.eq
 have d : 0 < val (p (m + 1)).1 - val (p m).1 := by grind
 refine Classical.byContradiction fun hno => ?_
 have h1 : val y' < val y := by grind
 have h2 := Rat.mul_lt_mul_of_pos_right h1 d
 have h3 := Rat.mul_le_mul_of_nonneg_left hx (show 0 ≤ val (p (m + 1)).2 - val (p m).2 by grind)
 grind
end
end Go.PV

/-
 Plain laws: characteristic polynomials.
 Conditions: none.
-/
set_option linter.all false
namespace Go.PV
def mulW (n : Nat) (A M : Nat → Nat → Int) (i j : Nat) : Int := foldN n (fun s l => w64 (s + w64 (A i l * M l j))) 0
def trW (n : Nat) (P : Nat → Nat → Int) : Int := foldN n (fun s i => w64 (s + P i i)) 0
def addD (M : Nat → Nat → Int) (c : Int) (i j : Nat) : Int := if i = j then w64 (M i j + c) else M i j
section
variable {n : Nat} {A : Nat → Nat → Int}
def chN (n : Nat) (A : Nat → Nat → Int) : Nat → (Nat → Int) × (Nat → Nat → Int)
 | 0 => (fun i => if i = n then 1 else 0, fun _ _ => 0)
 | k + 1 => (fun i => if i = n - (k + 1) then w64 (Int.tdiv (w64 (0 - trW n (mulW n A (addD (chN n A k).2 ((chN n A k).1 (n - k)))))) ((k + 1 : Nat) : Int)) else (chN n A k).1 i, mulW n A (addD (chN n A k).2 ((chN n A k).1 (n - k))))
end
def isPoly (c : List Int) : Bool := decide ((c.length : Int) ≤ 9) && (c.all (inB (-1000000) 1000000))
end Go.PV

/-
 Plain laws: lists turned round, ones.
 Conditions: none.
-/
set_option linter.all false
namespace Go.PV
section
variable {α : Type} [Inhabited α]
def revSt (xs : List α) (k : Nat) : List α := tab xs.length fun p => if p < k ∨ xs.length ≤ p + k then xs.getD (xs.length - 1 - p) default else xs.getD p default
end
theorem mul_1_0 : math_bits_Mul 1 0 = some (0, 0) := by kernel_rfl
theorem mul_1_1 : math_bits_Mul 1 1 = some (0, 1) := by kernel_rfl
theorem mul_1_2 : math_bits_Mul 1 2 = some (0, 2) := by kernel_rfl
theorem mul_1_3 : math_bits_Mul 1 3 = some (0, 3) := by kernel_rfl
theorem mul_1_4 : math_bits_Mul 1 4 = some (0, 4) := by kernel_rfl
theorem mul_1_5 : math_bits_Mul 1 5 = some (0, 5) := by kernel_rfl
theorem mul_1_6 : math_bits_Mul 1 6 = some (0, 6) := by kernel_rfl
theorem mul_1_7 : math_bits_Mul 1 7 = some (0, 7) := by kernel_rfl
theorem mul_1_8 : math_bits_Mul 1 8 = some (0, 8) := by kernel_rfl
theorem mul_one (n : Nat) (hn : n ≤ 8) : math_bits_Mul 1 (n : Int) = some (0, (n : Int)) := by
 match n, hn with
 | 0, _ => exact mul_1_0
 | 1, _ => exact mul_1_1
 | 2, _ => exact mul_1_2
 | 3, _ => exact mul_1_3
 | 4, _ => exact mul_1_4
 | 5, _ => exact mul_1_5
 | 6, _ => exact mul_1_6
 | 7, _ => exact mul_1_7
 | 8, _ => exact mul_1_8
 | n + 9, h => omega
def trimZ (c : List Int) : List Int := (c.reverse.dropWhile (· == 0)).reverse
end Go.PV

/-
 Plain laws: vectors of walks, bounds of growth.
 Conditions: none.
-/
set_option linter.all false
namespace Go.PV
def vk (G : Nat → Nat → Int) (n : Nat) : Nat → Nat → Int
 | 0 => fun _ => 1
 | k + 1 => fun j => dotN (G j) (vk G n k) n + vk G n k j
def mxg (G : Nat → Nat → Int) (n : Nat) : Nat → Nat
 | 0 => 0
 | k + 1 => if mxg G n k = k ∧ isVec (tab n (vk G n (k + 1))) = true then k + 1 else mxg G n k
section
variable {n : Nat} {G : Nat → Nat → Int}
def bestT (G : Nat → Nat → Int) (n : Nat) : (Int × Int) × (Int × Int) × Int × Bool := (mnN (ratN G (vk G n (mxg G n 20)) n) n, mxN (ratN G (vk G n (mxg G n 20)) n) n, ((mxg G n 20 : Nat) : Int), true)
end
end Go.PV

/-
 Plain laws: what draws from bytes always comes to an end.
 Conditions: none.
-/
set_option linter.all false
namespace Go.PV
def Tot {α : Type} (o : Option α) (P : α → Prop) : Prop := ∃ r, o = some r ∧ P r
section
variable {α β : Type} {P : α → Prop} {Q : β → Prop}
theorem Tot.bind {o : Option α} {f : α → Option β} (h : Tot o P) (k : ∀ r, P r → Tot (f r) Q) : Tot (o.bind f) Q := by
 obtain ⟨r, rfl, hr⟩ := h
 exact k r hr
theorem Tot.mono {P' : α → Prop} {o : Option α} (h : Tot o P) (k : ∀ r, P r → P' r) : Tot o P' := by
 obtain ⟨r, h, hr⟩ := h
 exact ⟨r, h, k r hr⟩
theorem Tot.ret {r : α} (h : P r) : Tot (some r) P := ⟨r, rfl, h⟩
theorem Tot.guard {p : Prop} [Decidable p] {f : Unit → Option α} (h : p) (k : Tot (f ()) P) : Tot ((guardO p).bind f) P := by
 rw [guardO_bind_pos h]; exact k
def Lp {X Y : Type} (I : X → Prop) (R : Y → Prop) : X ⊕ Y → Prop
 | .inl x => I x
 | .inr y => R y
theorem Tot.inl {X Y : Type} {I : X → Prop} {R : Y → Prop} {x : X} (h : I x) : Tot (some (Sum.inl x)) (Lp I R) := ⟨_, rfl, h⟩
theorem Tot.inr {X Y : Type} {I : X → Prop} {R : Y → Prop} {y : Y} (h : R y) : Tot (some (Sum.inr y)) (Lp I R) := ⟨_, rfl, h⟩
theorem Tot.loop {X Y : Type} {body : X → Option (X ⊕ Y)} {R : Y → Prop} (Inv : X → Prop) (μ : X → Nat)
  (h : ∀ x, Inv x → Tot (body x) (Lp (fun x' => Inv x' ∧ μ x' < μ x) R)) (x0 : X) (h0 : Inv x0) : Tot (loopO body x0) R := by
 obtain ⟨y, h1, h2⟩ := loop_run (body := body) Inv μ R (fun x hx => by
  obtain ⟨r, e, hr⟩ := h x hx
  cases r with
  | inl x' => exact .inl ⟨x', e, hr.1, hr.2⟩
  | inr y => exact .inr ⟨y, e, hr⟩) x0 h0
 exact ⟨y, h1, h2⟩
end
abbrev Cur := List Int × Int × Int
def Bytes (l : List Int) : Prop := l.length ≤ 9223372036854775807 ∧ ∀ b ∈ l, 0 ≤ b ∧ b ≤ 255
def Ck (B : Nat) (c : Cur) : Prop := Bytes c.1 ∧ 0 ≤ c.2.1 ∧ c.2.1 ≤ B
theorem Ck.mono {B B' : Nat} {c : Cur} (h : Ck B c) (hb : B ≤ B') : Ck B' c := ⟨h.1, h.2.1, by have := h.2.2; omega⟩
end Go.PV
namespace Go.PV
def cur4 {α : Type} (x : List Int × Int × Int × α) : Cur := (x.1, x.2.1, x.2.2.1)
def En (l : List Int) : Prop := ∀ x ∈ l, 0 ≤ x ∧ x ≤ 9
theorem En.set {l : List Int} {i : Nat} {x : Int} (h : En l) (h0 : 0 ≤ x) (h9 : x ≤ 9) : En (l.set i x) := fun y hy => by
 rcases List.mem_or_eq_of_mem_set hy with h' | rfl
 ·exact h y h'
 ·exact ⟨h0, h9⟩
def Sq (n : Int) (g : List (List Int)) : Prop := (g.length : Int) = n ∧ ∀ row ∈ g, (row.length : Int) = n ∧ En row
theorem mem_set {α : Type} {xs : List α} {i : Nat} {a x : α} (h : x ∈ xs.set i a) : x ∈ xs ∨ x = a := List.mem_or_eq_of_mem_set h
theorem Sq.set {n : Int} {g : List (List Int)} (h : Sq n g) {i : Nat} {row : List Int} (hr : (row.length : Int) = n ∧ En row) : Sq n (g.set i row) := ⟨by rw [List.length_set]; exact h.1, fun r hr' => by
 rcases mem_set hr' with h' | rfl
 ·exact h.2 r h'
 ·exact hr⟩
def Sm (g : List (List Int)) : Prop := g.length ≤ 9 ∧ ∀ row ∈ g, row.length ≤ 9
theorem Sm.sized {g : List (List Int)} (h : Sm g) : sized g := ⟨by have := h.1; omega, fun row hr => by have := h.2 row hr; omega⟩
theorem Sq.sm {n : Int} {g : List (List Int)} (h : Sq n g) (h8 : n ≤ 8) : Sm g := ⟨by have := h.1; omega, fun row hr => by have := (h.2 row hr).1; omega⟩
end Go.PV

/-
 Plain laws: images, coverings, graphs of coverings, on both sides.
 Conditions: none.
-/
set_option linter.all false
namespace Go.PV
theorem yda (xs : List Pt) (f : Pt → Option Bool) (p : Pt → Bool) (hf : ∀ x, f x = some (p x)) (hl : xs.length ≤ 4611686018427387904) :
  slices_IndexFunc_Limpl_Interval_impl_Interval xs f = some (match xs.findIdx? p with | some i => (i : Int) | none => -1) := by
 have h := loop_first (xs := xs) (body := slices_IndexFunc_Limpl_Interval_impl_Interval_b1 xs f) p (fun i => (i : Int)) (fun i => .inl (i : Int)) (.inr ()) (fun i x hx => by
  have hi := getElem?_lt hx
  simp only [slices_IndexFunc_Limpl_Interval_impl_Interval_b1, idxO_nat, hx, hf, Option.bind_some, w64_nat (show i < 9223372036854775807 by omega), show ((i : Int) < (xs.length : Int)) from by omega, decide_true, if_true]
  cases p x <;> rfl) (by simp [slices_IndexFunc_Limpl_Interval_impl_Interval_b1])
 unfold slices_IndexFunc_Limpl_Interval_impl_Interval
 rw [show (0 : Int) = ((0 : Nat) : Int) from rfl, h]
 cases xs.findIdx? p <;> rfl
theorem yca (xs : List Pt) (f : Pt → Option Bool) (p : Pt → Bool) (hf : ∀ x, f x = some (p x)) (hl : xs.length ≤ 4611686018427387904) : slices_ContainsFunc_Limpl_Interval_impl_Interval xs f = some (xs.any p) := by
 simp only [slices_ContainsFunc_Limpl_Interval_impl_Interval, yda xs f p hf hl, Option.bind_some]
 cases h : xs.findIdx? p with
 | none =>
  have hn := List.findIdx?_eq_none_iff.1 h
  have : xs.any p = false := by simpa using hn
  simp [this]
 | some m =>
  obtain ⟨hm, hp, _⟩ := List.findIdx?_eq_some_iff_getElem.1 h
  have : xs.any p = true := List.any_eq_true.2 ⟨xs[m], List.getElem_mem hm, hp⟩
  simp [this]
theorem yxb (p : Pt) : laws_toInterval p = some p := rfl
theorem yob (xs : List Pt) (hl : xs.length ≤ 1099511627776) : laws_toIntervalS xs = some xs := by
 have h := loop_idx (body := laws_toIntervalS_b1 xs) xs.length (fun i => (xs.take i ++ (List.replicate xs.length zP).drop i, (i : Int))) xs (fun i hi => by
  have hlen : i < (xs.take i ++ (List.replicate xs.length zP).drop i).length := by simp; omega
  simp only [laws_toIntervalS_b1, idxO_lt hi, idxO_lt hlen, yxb, Option.bind_some, w64_nat (show i < 9223372036854775807 by omega), show ((i : Int) < (xs.length : Int)) from by omega, decide_true, if_true, Int.toNat_natCast]
  rw [set_at _ _ _ _ (List.getElem?_eq_getElem hi) (by simpa using hi)]) (by simp [laws_toIntervalS_b1])
 unfold laws_toIntervalS
 rw [guardO_bind_pos (by omega)]
 simp only [List.take_zero, List.nil_append, List.drop_zero] at h
 rw [Int.toNat_natCast]
 have h' : loopO (laws_toIntervalS_b1 xs) (List.replicate xs.length ((0, 0), (0, 0)), 0) = some xs := h
 rw [h']
 rfl
theorem ypb (xs : List Pt) (m : Nat) (hm : m ≤ 4611686018427387904) (hl : xs.length ≤ 9223372036854775807) : laws_szIntervalS xs (m : Int) = some (if m < xs.length then -1 else (m : Int) - xs.length) := by
 unfold laws_szIntervalS
 rw [w64_id (by omega) (by omega)]
 by_cases h : m < xs.length
 ·have : (m : Int) - xs.length < 0 := by omega
  simp [this, h]
 ·have : ¬ (m : Int) - xs.length < 0 := by omega
  simp [this, h]
def tkR (s : Rt × Rt) (y : Rt) : Rt × Rt := (if less y s.1 = true then y else s.1, if less s.2 y = true then y else s.2)
theorem tkR_rat {s : Rt × Rt} {y : Rt} (h1 : isRat s.1 = true) (h2 : isRat s.2 = true) (hy : isRat y = true) : isRat (tkR s y).1 = true ∧ isRat (tkR s y).2 = true := by
 unfold tkR
 constructor
 ·dsimp only; split
  ·exact hy
  ·exact h1
 ·dsimp only; split
  ·exact hy
  ·exact h2
theorem yic {y lo hi : Rt} (hy : isRat y = true) (h1 : isRat lo = true) (h2 : isRat hi = true) : impl_calc_image_1 y lo hi = some (tkR (lo, hi) y) := by
 unfold impl_calc_image_1 impl_lesser impl_greater tkR
 rw [yfa y lo (tame_of hy) (tame_of h1), yfa hi y (tame_of h2) (tame_of hy)]
 cases less y lo <;> cases less hi y <;> rfl
section
variable {n : Nat} {p : Nat → Pt}
def ysB (p : Nat → Pt) (a b : Rt) : Nat → List Rt
 | 0 => []
 | m + 1 => if (less a (p m).1 && less (p m).1 b) = true then ysB p a b m ++ [(p m).2] else ysB p a b m
theorem ysB_len (a b : Rt) : ∀ m, (ysB p a b m).length ≤ m
 | 0 => Nat.le_refl _
 | m + 1 => by
  have := ysB_len a b m
  unfold ysB
  split
  ·simp; omega
  ·omega
theorem ysB_rat (h : Curve n p) (a b : Rt) : ∀ m, m ≤ n → ∀ y ∈ ysB p a b m, isRat y = true
 | 0, _, y, hy => by cases hy
 | m + 1, hm, y, hy => by
  unfold ysB at hy
  split at hy
  ·rcases List.mem_append.1 hy with hy | hy
   ·exact ysB_rat h a b m (by omega) y hy
   ·obtain rfl := List.mem_singleton.1 hy
    exact h.yr (by omega)
  ·exact ysB_rat h a b m (by omega) y hy
theorem fold_rat : ∀ (l : List Rt) (s : Rt × Rt), isRat s.1 = true → isRat s.2 = true → (∀ y ∈ l, isRat y = true) → isRat (l.foldl tkR s).1 = true ∧ isRat (l.foldl tkR s).2 = true
 | [], s, h1, h2, _ => ⟨h1, h2⟩
 | y :: l, s, h1, h2, h3 => by
  have := tkR_rat h1 h2 (h3 y (by simp))
  exact fold_rat l (tkR s y) this.1 this.2 fun z hz => h3 z (by simp [hz])
theorem ywc (h : Curve n p) {a b : Rt} (ha : isRat a = true) (hb : isRat b = true) (s : Rt × Rt) (h1 : isRat s.1 = true) (h2 : isRat s.2 = true) :
  loopO (impl_calc_image_b1 (tab n p) a b) (s.1.1, s.1.2, s.2.1, s.2.2, 0) = some (((ysB p a b n).foldl tkR s).1.1, ((ysB p a b n).foldl tkR s).1.2, ((ysB p a b n).foldl tkR s).2.1, ((ysB p a b n).foldl tkR s).2.2) := by
 have hn := h.hi
 have hr : ∀ i, i ≤ n → isRat ((ysB p a b i).foldl tkR s).1 = true ∧ isRat ((ysB p a b i).foldl tkR s).2 = true := fun i hi => fold_rat _ _ h1 h2 (ysB_rat h a b i hi)
 have hx := loop_idx (body := impl_calc_image_b1 (tab n p) a b) n (fun i => (((ysB p a b i).foldl tkR s).1.1, ((ysB p a b i).foldl tkR s).1.2, ((ysB p a b i).foldl tkR s).2.1, ((ysB p a b i).foldl tkR s).2.2, (i : Int))) (((ysB p a b n).foldl tkR s).1.1, ((ysB p a b n).foldl tkR s).1.2, ((ysB p a b n).foldl tkR s).2.1, ((ysB p a b n).foldl tkR s).2.2) (fun i hi => by
  have tx := tame_of (h.xr hi)
  simp only [impl_calc_image_b1, tab_len, show ((i : Int) < (n : Int)) from by omega, decide_true, if_true, idxO_tab hi, Option.bind_some, yfa a _ (tame_of ha) tx, yfa _ b tx (tame_of hb), w64_nat (show i < 9223372036854775807 by omega)]
  cases g1 : less a (p i).1
  ·simp only [Bool.false_eq_true, if_false, Option.bind_some, ysB, g1, Bool.false_and]
  ·cases g2 : less (p i).1 b
   ·simp only [if_true, Bool.false_eq_true, if_false, Option.bind_some, ysB, g1, g2, Bool.and_false]
   ·simp only [if_true, Option.bind_some, ysB, g1, g2, Bool.and_self, List.foldl_append, List.foldl_cons, List.foldl_nil]
    have := hr i (by omega)
    rw [show (((ysB p a b i).foldl tkR s).1.1, ((ysB p a b i).foldl tkR s).1.2) = ((ysB p a b i).foldl tkR s).1 from rfl, show (((ysB p a b i).foldl tkR s).2.1, ((ysB p a b i).foldl tkR s).2.2) = ((ysB p a b i).foldl tkR s).2 from rfl, yic (h.yr hi) this.1 this.2]
    rfl) (by simp only [impl_calc_image_b1, tab_len, Int.lt_irrefl, decide_false, Bool.false_eq_true, if_false])
 exact hx
def imR (n : Nat) (p : Nat → Pt) (a b y z : Rt) : Rt × Rt := (z :: ysB p a b n).foldl tkR (y, y)
theorem imR_rat (h : Curve n p) {a b y z : Rt} (hy : isRat y = true) (hz : isRat z = true) : isRat (imR n p a b y z).1 = true ∧ isRat (imR n p a b y z).2 = true :=
 fold_rat _ _ hy hy fun x hx => by
  rcases List.mem_cons.1 hx with rfl | hx
  ·exact hz
  ·exact ysB_rat h a b n (Nat.le_refl _) x hx
theorem yud (h : Curve n p) {a b : Rt} (ha : isUnit a = true) (hb : isUnit b = true) (bad : Bool) : ∃ v, impl_calc_image bad (tab n p) a b = some v ∧ isRat v.1 = true ∧ isRat v.2.1 = true ∧
    (match atQ n p a, atQ n p b with
     | some y, some z => v = ((imR n p a b y z).1, (imR n p a b y z).2, bad)
     | _, _ => v.2.2 = true) ∧ (bad = true → v.2.2 = true) := by
  obtain ⟨v1, e1, c1⟩ := impl_at h ha bad
  obtain ⟨v2, e2, c2⟩ := impl_at h hb v1.2
  have ra : isRat a = true := by simp only [isUnit, Bool.and_eq_true] at ha; exact ha.1
  have rb : isRat b = true := by simp only [isUnit, Bool.and_eq_true] at hb; exact hb.1
  have hr := imR_rat h (a := a) (b := b) c1.1 c2.1
  refine ⟨((imR n p a b v1.1 v2.1).1, (imR n p a b v1.1 v2.1).2, v2.2), ?_, hr.1, hr.2, ?_, fun hbad => ?_⟩
  · unfold impl_calc_image
    rw [e1, Option.bind_some, e2, Option.bind_some, yic c2.1 c1.1 c1.1, Option.bind_some]
    have := tkR_rat (s := (v1.1, v1.1)) c1.1 c1.1 c2.1
    rw [ywc h ra rb _ this.1 this.2, Option.bind_some]
    rfl
  · obtain ⟨_, c1⟩ := c1
    obtain ⟨_, c2⟩ := c2
    cases h1 : atQ n p a with
    | none =>
      rw [h1] at c1
      have h3 : v1.2 = true := c1
      cases h2 : atQ n p b with
      | none => rw [h2] at c2; exact c2
      | some z => rw [h2] at c2; have c2 : v2 = (z, v1.2) := c2; show v2.2 = true; rw [c2]; exact h3
    | some y =>
      rw [h1] at c1
      have c1 : v1 = (y, bad) := c1
      cases h2 : atQ n p b with
      | none => rw [h2] at c2; exact c2
      | some z => rw [h2] at c2; have c2 : v2 = (z, v1.2) := c2; rw [c2, c1]
  · subst hbad
    have b1 := CR_bad c1
    rw [b1] at c2
    have c3 : v2.2 = true := CR_bad c2
    exact c3
theorem yvd (h : Curve n p) {a b : Rt} (ha : isUnit a = true) (hb : isUnit b = true) : spec_imImage (tab n p) a b = some (match atQ n p a, atQ n p b with
     | some y, some z => ((imR n p a b y z).1, (imR n p a b y z).2, true)
     | _, _ => ((0, 0), (0, 0), false)) := by
  have hn := h.hi
  have ra : isRat a = true := by simp only [isUnit, Bool.and_eq_true] at ha; exact ha.1
  have rb : isRat b = true := by simp only [isUnit, Bool.and_eq_true] at hb; exact hb.1
  unfold spec_imImage
  rw [spec_at h ha, spec_at h hb]
  simp only [Option.bind_some]
  cases h1 : atQ n p a with
  | none => simp [unO]
  | some y =>
    cases h2 : atQ n p b with
    | none => simp [unO]
    | some z =>
      have ry := atQ_rat h1
      have rz := atQ_rat h2
      simp only [unO, Bool.not_true, Bool.or_self, Bool.false_eq_true, if_false]
      have l1 := loop_idx (body := spec_imImage_b2 (tab n p) a b) n (fun i => (z :: ysB p a b i, (i : Int))) (z :: ysB p a b n) (fun i hi => by
        have tx := tame_of (h.xr hi)
        have hlen := ysB_len (p := p) a b i
        simp only [spec_imImage_b2, tab_len, show ((i : Int) < (n : Int)) from by omega, decide_true, if_true, idxO_tab hi, Option.bind_some, yba a _ (tame_of ra) tx, yba _ b tx (tame_of rb), cmp_lt, w64_nat (show i < 9223372036854775807 by omega)]
        cases g1 : less a (p i).1
        · simp only [Bool.false_eq_true, if_false, Option.bind_some, ysB, g1, Bool.false_and]
        · cases g2 : less (p i).1 b
          · simp only [if_true, Bool.false_eq_true, if_false, Option.bind_some, ysB, g1, g2, Bool.and_false]
          · simp only [if_true, Option.bind_some, ysB, g1, g2, Bool.and_self]
            rw [guardO_bind_pos (by simp; omega)]
            rfl) (by simp only [spec_imImage_b2, tab_len, Int.lt_irrefl, decide_false, Bool.false_eq_true, if_false])
      have l1' : loopO (spec_imImage_b2 (tab n p) a b) ([z], 0) = some (z :: ysB p a b n) := l1
      rw [l1', Option.bind_some]
      unfold spec_imImage_k1
      have hl : (z :: ysB p a b n).length ≤ 13 := by have := ysB_len (p := p) a b n; simp; omega
      have hm : ∀ x ∈ z :: ysB p a b n, isRat x = true := fun x hx => by
        rcases List.mem_cons.1 hx with rfl | hx
        · exact rz
        · exact ysB_rat h a b n (Nat.le_refl _) x hx
      have key : imR n p a b y z = (z :: ysB p a b n).foldl tkR (y, y) := rfl
      rw [key]
      generalize z :: ysB p a b n = l at hl hm
      have hr : ∀ i, isRat ((l.take i).foldl tkR (y, y)).1 = true ∧ isRat ((l.take i).foldl tkR (y, y)).2 = true := fun i => fold_rat _ _ ry ry fun x hx => hm x (List.mem_of_mem_take hx)
      have l2 := loop_idx (body := spec_imImage_b1 l) l.length (fun i => (((l.take i).foldl tkR (y, y)).1.1, ((l.take i).foldl tkR (y, y)).1.2, ((l.take i).foldl tkR (y, y)).2.1, ((l.take i).foldl tkR (y, y)).2.2, (i : Int))) ((l.foldl tkR (y, y)).1.1, (l.foldl tkR (y, y)).1.2, (l.foldl tkR (y, y)).2.1, (l.foldl tkR (y, y)).2.2) (fun i hi => by
        have e : l.take (i + 1) = l.take i ++ [l[i]] := by rw [List.take_succ_eq_append_getElem hi]
        have rx := hm l[i] (List.getElem_mem hi)
        have r1 := hr i
        rw [e, List.foldl_append]
        simp only [List.foldl_cons, List.foldl_nil]
        generalize (l.take i).foldl tkR (y, y) = s at r1
        simp only [spec_imImage_b1, show ((i : Int) < (l.length : Int)) from by omega, decide_true, if_true, idxO_lt hi, Option.bind_some, show ((s.1.1, s.1.2) : Rt) = s.1 from rfl, yba _ s.1 (tame_of rx) (tame_of r1.1), cmp_lt, spec_imImage_k3, show ((s.2.1, s.2.2) : Rt) = s.2 from rfl, yba s.2 _ (tame_of r1.2) (tame_of rx), w64_nat (show i < 9223372036854775807 by omega)]
        unfold tkR
        cases less l[i] s.1 <;> cases less s.2 l[i] <;> rfl) (by
          simp only [spec_imImage_b1, Int.lt_irrefl, decide_false, Bool.false_eq_true, if_false, List.take_length])
      have l2' : loopO (spec_imImage_b1 l) (y.1, y.2, y.1, y.2, 0) = some ((l.foldl tkR (y, y)).1.1, (l.foldl tkR (y, y)).1.2, (l.foldl tkR (y, y)).2.1, (l.foldl tkR (y, y)).2.2) := l2
      rw [l2']
      rfl
abbrev Iv := Rt × Rt
def isIv (i : Iv) : Bool := isUnit i.1 && isUnit i.2 && less i.1 i.2
noncomputable def okI (n : Nat) (p : Nat → Pt) (i : Iv) : Bool := (atQ n p i.1).isSome && (atQ n p i.2).isSome
noncomputable def covI (n : Nat) (p : Nat → Pt) (i k : Iv) : Bool := match atQ n p i.1, atQ n p i.2 with
 | some y, some z => !less k.1 (imR n p i.1 i.2 y z).1 && !less (imR n p i.1 i.2 y z).2 k.2
 | _, _ => false
theorem yqb {i : Iv} (h : isIv i = true) : isUnit i.1 = true ∧ isUnit i.2 = true ∧ isRat i.1 = true ∧ isRat i.2 = true := by
 simp only [isIv, Bool.and_eq_true] at h
 have h1 := h.1.1
 have h2 := h.1.2
 refine ⟨h1, h2, ?_, ?_⟩
 ·simp only [isUnit, Bool.and_eq_true] at h1; exact h1.1
 ·simp only [isUnit, Bool.and_eq_true] at h2; exact h2.1
theorem yrb (h : Curve n p) {i k : Iv} (hi : isIv i = true) (hk : isIv k = true) (bad : Bool) : ∃ v, impl_calc_covers bad (tab n p) i k = some v ∧ (okI n p i = true → v = (covI n p i k, bad)) ∧ (okI n p i = false → v.2 = true) ∧ (bad = true → v.2 = true) := by
 obtain ⟨u1, u2, r1, r2⟩ := yqb hi
 obtain ⟨_, _, k1, k2⟩ := yqb hk
 obtain ⟨v, e, c1, c2, c3, c4⟩ := yud h u1 u2 bad
 refine ⟨(!less k.1 v.1 && !less v.2.1 k.2, v.2.2), ?_, fun ho => ?_, fun ho => ?_, c4⟩
 ·unfold impl_calc_covers
  rw [e]
  simp only [Option.bind_some, yfa k.1 v.1 (tame_of k1) (tame_of c1), yfa v.2.1 k.2 (tame_of c2) (tame_of k2)]
  cases less k.1 v.1 <;> rfl
 ·unfold okI at ho
  unfold covI
  cases h1 : atQ n p i.1 with
  | none => rw [h1] at ho; cases ho
  | some y =>
   cases h2 : atQ n p i.2 with
   | none => rw [h1, h2] at ho; cases ho
   | some z =>
    rw [h1, h2] at c3
    have c3 : v = ((imR n p i.1 i.2 y z).1, (imR n p i.1 i.2 y z).2, bad) := c3
    rw [c3]
 ·unfold okI at ho
  cases h1 : atQ n p i.1 with
  | none => rw [h1] at c3; exact c3
  | some y =>
   cases h2 : atQ n p i.2 with
   | none => rw [h1, h2] at c3; exact c3
   | some z => rw [h1, h2] at ho; cases ho
theorem ysb (h : Curve n p) {i k : Iv} (hi : isIv i = true) (hk : isIv k = true) : spec_ivCovers (tab n p) i k = some (if okI n p i = true then (covI n p i k, true) else (false, false)) := by
 obtain ⟨u1, u2, r1, r2⟩ := yqb hi
 obtain ⟨_, _, k1, k2⟩ := yqb hk
 unfold spec_ivCovers okI covI
 rw [yvd h u1 u2]
 cases h1 : atQ n p i.1 with
 | none => rfl
 | some y =>
  cases h2 : atQ n p i.2 with
  | none => rfl
  | some z =>
   have hr := imR_rat h (a := i.1) (b := i.2) (atQ_rat h1) (atQ_rat h2)
   simp only [Option.bind_some, Bool.not_true, Bool.false_eq_true, if_false, yba _ k.1 (tame_of hr.1) (tame_of k1), yba k.2 _ (tame_of k2) (tame_of hr.2), cmp_le, Option.isSome_some, Bool.and_self, if_true]
   cases less k.1 (imR n p i.1 i.2 y z).1 <;> rfl
end
end Go.PV

/-
 Plain laws: graphs of coverings on both sides.
 Conditions: none.
-/
set_option linter.all false
namespace Go.PV
theorem yja (xs : List Rt) (f : Rt → Option Bool) (p : Rt → Bool) (hf : ∀ x, f x = some (p x)) (hl : xs.length ≤ 4611686018427387904) :
  slices_IndexFunc_Limpl_Rat_impl_Rat xs f = some (match xs.findIdx? p with | some i => (i : Int) | none => -1) := by
 have h := loop_first (xs := xs) (body := slices_IndexFunc_Limpl_Rat_impl_Rat_b1 xs f) p (fun i => (i : Int)) (fun i => .inl (i : Int)) (.inr ()) (fun i x hx => by
  have hi := getElem?_lt hx
  simp only [slices_IndexFunc_Limpl_Rat_impl_Rat_b1, idxO_nat, hx, hf, Option.bind_some, w64_nat (show i < 9223372036854775807 by omega), show ((i : Int) < (xs.length : Int)) from by omega, decide_true, if_true]
  cases p x <;> rfl) (by simp [slices_IndexFunc_Limpl_Rat_impl_Rat_b1])
 unfold slices_IndexFunc_Limpl_Rat_impl_Rat
 rw [show (0 : Int) = ((0 : Nat) : Int) from rfl, h]
 cases xs.findIdx? p <;> rfl
theorem yha (xs : List Rt) (f : Rt → Option Bool) (p : Rt → Bool) (hf : ∀ x, f x = some (p x)) (hl : xs.length ≤ 4611686018427387904) : slices_ContainsFunc_Limpl_Rat_impl_Rat xs f = some (xs.any p) := by
 simp only [slices_ContainsFunc_Limpl_Rat_impl_Rat, yja xs f p hf hl, Option.bind_some]
 cases h : xs.findIdx? p with
 | none =>
  have hn := List.findIdx?_eq_none_iff.1 h
  have : xs.any p = false := by simpa using hn
  simp [this]
 | some m =>
  obtain ⟨hm, hp, _⟩ := List.findIdx?_eq_some_iff_getElem.1 h
  have : xs.any p = true := List.any_eq_true.2 ⟨xs[m], List.getElem_mem hm, hp⟩
  simp [this]
theorem yyb (i : Iv) : impl_isInterval i = some (isIv i) := by
 unfold impl_isInterval impl_areUnits isIv
 rw [yha [i.1, i.2] (fun x0 => impl_areUnits_1 x0) (fun x => !isUnit x) (fun x => by simp [impl_areUnits_1, yjb]) (by simp)]
 simp only [List.any_cons, List.any_nil, Bool.or_false, Option.bind_some, Bool.not_or, Bool.not_not]
 cases h1 : isUnit i.1
 ·simp
 ·cases h2 : isUnit i.2
  ·simp
  ·have r1 : isRat i.1 = true := by simp only [isUnit, Bool.and_eq_true] at h1; exact h1.1
   have r2 : isRat i.2 = true := by simp only [isUnit, Bool.and_eq_true] at h2; exact h2.1
   simp only [Bool.and_self, if_true, yfa i.1 i.2 (tame_of r1) (tame_of r2), Option.bind_some, Bool.true_and]
theorem yhd (i : Iv) : spec_ivGood i = some (isIv i) := by
 unfold spec_ivGood isIv
 rw [yta, yta]
 cases h1 : isUnit i.1
 ·rfl
 ·cases h2 : isUnit i.2
  ·rfl
  ·have r1 : isRat i.1 = true := by simp only [isUnit, Bool.and_eq_true] at h1; exact h1.1
   have r2 : isRat i.2 = true := by simp only [isUnit, Bool.and_eq_true] at h2; exact h2.1
   simp only [Option.bind_some, if_true, yba i.1 i.2 (tame_of r1) (tame_of r2), cmp_lt, Bool.true_and]
def areIv (l : List Iv) : Bool := inB 1 8 l.length && l.all isIv
theorem ygb (l : List Iv) (hl : l.length ≤ 4611686018427387904) : impl_areIntervals l = some (areIv l) := by
 unfold impl_areIntervals areIv
 rw [yla, Option.bind_some]
 cases inB 1 8 (l.length : Int)
 ·rfl
 ·have hc := yca l (fun x0 => impl_areIntervals_1 x0) (fun x => !isIv x) (fun x => by simp [impl_areIntervals_1, yyb]) hl
  simp only [if_true, hc, Option.bind_some, List.any_eq_not_all_not, Bool.not_not, Bool.true_and]
theorem ywa (l : List Iv) (hl : l.length ≤ 4611686018427387904) : spec_ivList l = some (areIv l) := by
 obtain ⟨y, e1, e2⟩ := loop_run (body := spec_ivList_b1 l) (fun x => ∃ i : Nat, x = (i : Int) ∧ i ≤ l.length ∧ (l.take i).all isIv = true) (fun x => l.length - x.toNat) (fun y => y = if l.all isIv = true then .inr () else .inl false) (fun x ⟨i, e, hi, hq⟩ => by
  subst e
  by_cases hlt : i < l.length
  ·simp only [spec_ivList_b1, show ((i : Int) < (l.length : Int)) from by omega, decide_true, if_true, idxO_lt hlt, Option.bind_some, yhd]
   cases h : isIv l[i]
   ·right
    refine ⟨.inl false, by simp, ?_⟩
    have : l.all isIv = false := by
     rw [List.all_eq_false]
     exact ⟨l[i], List.getElem_mem hlt, by rw [h]; simp⟩
    rw [this]; rfl
   ·left
    refine ⟨_, by simp only [Bool.not_true, Bool.false_eq_true, if_false, w64_nat (show i < 9223372036854775807 by omega)], ⟨i + 1, rfl, by omega, ?_⟩, by simp only [Int.toNat_natCast]; omega⟩
    rw [List.take_succ_eq_append_getElem hlt, List.all_append, hq]
    simp [h]
  ·right
   have : i = l.length := by omega
   subst this
   refine ⟨.inr (), by simp only [spec_ivList_b1, Int.lt_irrefl, decide_false, Bool.false_eq_true, if_false], ?_⟩
   rw [List.take_length] at hq
   rw [if_pos hq]) 0 ⟨0, rfl, by omega, by simp⟩
 unfold spec_ivList areIv
 rw [e1, e2]
 cases l.all isIv
 ·simp
 ·simp only [if_true, Option.bind_some, Sum.elim_inr, spec_ivList_k1, yna, Bool.and_true]
section
variable {n m : Nat} {p : Nat → Pt} {q : Nat → Iv}
def allOk (n : Nat) (p : Nat → Pt) (m : Nat) (q : Nat → Iv) : Prop := ∀ a, a < m → okI n p (q a) = true
noncomputable def cvM (n : Nat) (p : Nat → Pt) (q : Nat → Iv) (a b : Nat) : Int := if covI n p (q a) (q b) = true then 1 else 0
theorem yid (h : Curve n p) (hm : m ≤ 8) (hq : ∀ a, a < m → isIv (q a) = true) {i : Nat} (hi : i < m) (X : Bool × List (List Int)) (b0 : Bool) (F : Nat → Nat → Int) (hF : ∀ c, F i c = 0) :
  ∃ b F', loopO (impl_CoverGraph_b2 (tab n p) (tab m q) (X.1, X.2, (i : Int)) (q i)) (b0, mat m m F, 0) = some (b, mat m m F') ∧ ((b0 = true ∨ okI n p (q i) = false) → b = true) ∧ ((b0 = false ∧ okI n p (q i) = true) → b = false ∧ ∀ a c, F' a c = if a = i ∧ c < m then cvM n p q i c else F a c) := by
 obtain ⟨y, e1, b, F', rfl, e2, e3⟩ := loop_run (body := impl_CoverGraph_b2 (tab n p) (tab m q) (X.1, X.2, (i : Int)) (q i))
  (fun x => ∃ (j : Nat) (b : Bool) (F' : Nat → Nat → Int), x = (b, mat m m F', (j : Int)) ∧ j ≤ m ∧ ((b0 = true ∨ (okI n p (q i) = false ∧ 0 < j)) → b = true) ∧ ((b0 = false ∧ okI n p (q i) = true) → b = false ∧ ∀ a c, F' a c = if a = i ∧ c < j then cvM n p q i c else F a c))
  (fun x => m - x.2.2.toNat) (fun y => ∃ (b : Bool) (F' : Nat → Nat → Int), y = (b, mat m m F') ∧ ((b0 = true ∨ okI n p (q i) = false) → b = true) ∧ ((b0 = false ∧ okI n p (q i) = true) → b = false ∧ ∀ a c, F' a c = if a = i ∧ c < m then cvM n p q i c else F a c)) (fun x ⟨j, b, F', e, hj, g1, g2⟩ => by
  subst e
  by_cases hlt : j < m
  ·left
   obtain ⟨v, c1, c2, c3, c4⟩ := yrb h (hq i hi) (hq j hlt) b
   have hb : (b0 = true ∨ (okI n p (q i) = false ∧ 0 < j + 1)) → v.2 = true := fun hh => by
    rcases hh with hh | ⟨hh, _⟩
    ·exact c4 (g1 (.inl hh))
    ·exact c3 hh
   simp only [impl_CoverGraph_b2, tab_len, show ((j : Int) < (m : Int)) from by omega, decide_true, if_true, idxO_tab hlt, Option.bind_some, c1, idxO_mat hi, w64_nat (show j < 9223372036854775807 by omega), Int.toNat_natCast]
   cases hv : v.1
   ·refine ⟨(v.2, mat m m F', ((j + 1 : Nat) : Int)), by simp only [Bool.false_eq_true, if_false], ⟨j + 1, v.2, F', rfl, by omega, hb, fun hh => ?_⟩, by simp only [Int.toNat_natCast]; omega⟩
    obtain ⟨f1, f2⟩ := g2 hh
    have c5 := c2 hh.2
    have f3 : covI n p (q i) (q j) = false := by rw [c5] at hv; exact hv
    refine ⟨by rw [c5]; exact f1, fun a c => ?_⟩
    rw [f2]
    by_cases ha : a = i
    ·subst ha
     by_cases hc : c = j
     ·subst hc
      have hcv : cvM n p q a c = 0 := by unfold cvM; rw [f3]; rfl
      simp [hF, hcv]
     ·by_cases hc2 : c < j
      ·simp [hc2, show c < j + 1 by omega]
      ·simp [hc2, show ¬ c < j + 1 by omega]
    ·simp [ha]
   ·refine ⟨(v.2, mat m m (fun a c => if a = i ∧ c = j then 1 else F' a c), ((j + 1 : Nat) : Int)), by simp only [if_true, mat_set hi hlt], ⟨j + 1, v.2, _, rfl, by omega, hb, fun hh => ?_⟩, by simp only [Int.toNat_natCast]; omega⟩
    obtain ⟨f1, f2⟩ := g2 hh
    have c5 := c2 hh.2
    have f3 : covI n p (q i) (q j) = true := by rw [c5] at hv; exact hv
    refine ⟨by rw [c5]; exact f1, fun a c => ?_⟩
    rw [f2]
    by_cases ha : a = i
    ·subst ha
     by_cases hc : c = j
     ·subst hc
      have hcv : cvM n p q a c = 1 := by unfold cvM; rw [f3]; rfl
      simp [hcv]
     ·by_cases hc2 : c < j
      ·simp [hc, hc2, show c < j + 1 by omega]
      ·simp [hc, hc2, show ¬ c < j + 1 by omega]
    ·simp [ha]
  ·right
   have : j = m := by omega
   subst this
   exact ⟨(b, mat j j F'), by simp only [impl_CoverGraph_b2, tab_len, Int.lt_irrefl, decide_false, Bool.false_eq_true, if_false], b, F', rfl, fun hh => g1 (by
    rcases hh with hh | hh
    ·exact .inl hh
    ·exact .inr ⟨hh, by omega⟩), g2⟩) (b0, mat m m F, 0) ⟨0, b0, F, rfl, by omega, fun hh => by
    rcases hh with hh | ⟨_, hh⟩
    ·exact hh
    ·omega, fun hh => ⟨hh.1, fun a c => by simp⟩⟩
 exact ⟨b, F', e1, e2, e3⟩
theorem yre (h : Curve n p) (hm : m ≤ 8) (hq : ∀ a, a < m → isIv (q a) = true) {i : Nat} (hi : i < m) (F : Nat → Nat → Int) : ∃ b' F3, loopO (impl_CoverGraph_b2 (tab n p) (tab m q) (true, mat m m F, (i : Int)) (q i)) (true, mat m m F, 0) = some (b', mat m m F3) ∧ ((true = true ∨ okI n p (q i) = false) → b' = true) ∧ ((true = false ∧ okI n p (q i) = true) → b' = false ∧ ∀ a c, F3 a c = 0) := by
 obtain ⟨y, e1, F', rfl⟩ := loop_run (body := impl_CoverGraph_b2 (tab n p) (tab m q) (true, mat m m F, (i : Int)) (q i))
  (fun x => ∃ (j : Nat) (F' : Nat → Nat → Int), x = (true, mat m m F', (j : Int)) ∧ j ≤ m) (fun x => m - x.2.2.toNat) (fun y => ∃ F' : Nat → Nat → Int, y = (true, mat m m F')) (fun x ⟨j, F', e, hj⟩ => by
  subst e
  by_cases hlt : j < m
  ·left
   obtain ⟨v, c1, c2, c3, c4⟩ := yrb h (hq i hi) (hq j hlt) true
   simp only [impl_CoverGraph_b2, tab_len, show ((j : Int) < (m : Int)) from by omega, decide_true, if_true, idxO_tab hlt, Option.bind_some, c1, idxO_mat hi, w64_nat (show j < 9223372036854775807 by omega), Int.toNat_natCast, c4 rfl]
   cases hv : v.1
   ·exact ⟨(true, mat m m F', ((j + 1 : Nat) : Int)), by simp only [Bool.false_eq_true, if_false], ⟨j + 1, F', rfl, by omega⟩, by simp only [Int.toNat_natCast]; omega⟩
   ·exact ⟨(true, mat m m (fun a c => if a = i ∧ c = j then 1 else F' a c), ((j + 1 : Nat) : Int)), by simp only [if_true, mat_set hi hlt], ⟨j + 1, _, rfl, by omega⟩, by simp only [Int.toNat_natCast]; omega⟩
  ·right
   have : j = m := by omega
   subst this
   exact ⟨(true, mat j j F'), by simp only [impl_CoverGraph_b2, tab_len, Int.lt_irrefl, decide_false, Bool.false_eq_true, if_false], F', rfl⟩) (true, mat m m F, 0) ⟨0, F, rfl, by omega⟩
 exact ⟨true, F', e1, fun _ => rfl, fun hh => by cases hh.1⟩
theorem yjc (h : Curve n p) (hm : m ≤ 8) (hq : ∀ a, a < m → isIv (q a) = true) :
  ∃ b F', loopO (impl_CoverGraph_b1 (tab n p) (tab m q)) (false, mat m m (fun _ _ => 0), 0) = some (b, mat m m F') ∧ (¬ allOk n p m q → b = true) ∧ (allOk n p m q → b = false ∧ ∀ a c, a < m → c < m → F' a c = cvM n p q a c) := by
 obtain ⟨y, e1, b, F', rfl, e2, e3⟩ := loop_run (body := impl_CoverGraph_b1 (tab n p) (tab m q))
  (fun x => ∃ (i : Nat) (b : Bool) (F' : Nat → Nat → Int), x = (b, mat m m F', (i : Int)) ∧ i ≤ m ∧ ((∃ a, a < i ∧ okI n p (q a) = false) → b = true) ∧ ((∀ a, a < i → okI n p (q a) = true) → b = false ∧ ∀ a c, c < m → F' a c = if a < i then cvM n p q a c else 0) ∧ ∀ a c, i ≤ a → F' a c = 0 ∨ b = true)
  (fun x => m - x.2.2.toNat) (fun y => ∃ (b : Bool) (F' : Nat → Nat → Int), y = (b, mat m m F') ∧ (¬ allOk n p m q → b = true) ∧ (allOk n p m q → b = false ∧ ∀ a c, a < m → c < m → F' a c = cvM n p q a c)) (fun x ⟨i, b, F', e, hi, g1, g2, g3⟩ => by
  subst e
  by_cases hlt : i < m
  ·left
   -- the row may be thought empty
   have hrow : ∃ F2 : Nat → Nat → Int, mat m m F' = mat m m F2 ∧ (b = false → ∀ a c, F2 a c = if c < m then F' a c else 0) ∧ (b = false → ∀ c, F2 i c = 0) := by
    refine ⟨fun a c => if c < m then F' a c else 0, mat_ext fun a c _ hc => by simp [hc], fun _ _ _ => rfl, fun hb c => ?_⟩
    have := g3 i c (Nat.le_refl i)
    rw [hb] at this
    rcases this with this | this
    ·simp [this]
    ·cases this
   obtain ⟨F2, k1, k2, k3⟩ := hrow
   have step : ∃ b' F3, loopO (impl_CoverGraph_b2 (tab n p) (tab m q) (b, mat m m F', (i : Int)) (q i)) (b, mat m m F', 0) = some (b', mat m m F3) ∧ ((b = true ∨ okI n p (q i) = false) → b' = true) ∧ ((b = false ∧ okI n p (q i) = true) → b' = false ∧ ∀ a c, F3 a c = if a = i ∧ c < m then cvM n p q i c else F2 a c) := by
    cases hb : b
    ·have := yid h hm hq hlt (b, mat m m F') false F2 (k3 hb)
     rw [k1] at this ⊢
     rw [hb] at this
     exact this
    ·obtain ⟨b', F3, t1, t2, t3⟩ := yre h hm hq hlt F'
     exact ⟨b', F3, t1, t2, fun hh => by cases hh.1⟩
   obtain ⟨b', F3, s1, s2, s3⟩ := step
   refine ⟨(b', mat m m F3, ((i + 1 : Nat) : Int)), by simp only [impl_CoverGraph_b1, tab_len, show ((i : Int) < (m : Int)) from by omega, decide_true, if_true, idxO_tab hlt, Option.bind_some, s1, impl_CoverGraph_k2, w64_nat (show i < 9223372036854775807 by omega)], ⟨i + 1, b', F3, rfl, by omega, fun ⟨a, ha, hb⟩ => ?_, fun hall => ?_, fun a c ha => ?_⟩, by simp only [Int.toNat_natCast]; omega⟩
   ·by_cases hai : a = i
    ·subst hai; exact s2 (.inr hb)
    ·exact s2 (.inl (g1 ⟨a, by omega, hb⟩))
   ·obtain ⟨f1, f2⟩ := g2 fun a ha => hall a (by omega)
    obtain ⟨f3, f4⟩ := s3 ⟨f1, hall i (by omega)⟩
    refine ⟨f3, fun a c hc => ?_⟩
    rw [f4, k2 f1, f2 a c hc]
    by_cases hai : a = i
    ·subst hai; simp [hc]
    ·by_cases h2 : a < i
     ·simp [hai, hc, h2, show a < i + 1 by omega]
     ·simp [hai, hc, h2, show ¬ a < i + 1 by omega]
   ·cases hb : b'
    ·left
     have hbf : b = false := by
      cases hbb : b
      ·rfl
      ·rw [s2 (.inl hbb)] at hb; cases hb
     have hok : okI n p (q i) = true := by
      cases hbb : okI n p (q i)
      ·rw [s2 (.inr hbb)] at hb; cases hb
      ·rfl
     rw [(s3 ⟨hbf, hok⟩).2, if_neg (by omega), k2 hbf]
     split
     ·rcases g3 a c (by omega) with h1 | h1
      ·exact h1
      ·rw [hbf] at h1; cases h1
     ·rfl
    ·exact .inr rfl
  ·right
   have : i = m := by omega
   subst this
   refine ⟨(b, mat i i F'), by simp only [impl_CoverGraph_b1, tab_len, Int.lt_irrefl, decide_false, Bool.false_eq_true, if_false], b, F', rfl, fun hno => g1 ?_, fun hall => ?_⟩
   ·exact Classical.byContradiction fun hne => hno fun a ha => by
     cases hh : okI n p (q a)
     ·exact absurd ⟨a, ha, hh⟩ hne
     ·rfl
   ·obtain ⟨f1, f2⟩ := g2 hall
    exact ⟨f1, fun a c ha hc => by rw [f2 a c hc, if_pos ha]⟩) (false, mat m m (fun _ _ => 0), 0) ⟨0, false, fun _ _ => 0, rfl, by omega, fun ⟨a, ha, _⟩ => by omega, fun _ => ⟨rfl, fun a c _ => by simp⟩, fun a c _ => .inl rfl⟩
 exact ⟨b, F', e1, e2, e3⟩
end
end Go.PV

/-
 Plain laws: sums, powers of tables of numbers, traces.
 Conditions: none.
-/
set_option linter.all false
namespace Go.PV
def sm (n : Nat) (f : Nat → Int) : Int := foldN n (fun s i => s + f i) 0
theorem sm_zero (f : Nat → Int) : sm 0 f = 0 := rfl
theorem sm_succ (n : Nat) (f : Nat → Int) : sm (n + 1) f = sm n f + f n := yab ..
theorem sm_ext {n : Nat} {f g : Nat → Int} (h : ∀ i, i < n → f i = g i) : sm n f = sm n g := yoe fun b i hi => by rw [h i hi]
theorem sm_add (n : Nat) (f g : Nat → Int) : sm n (fun i => f i + g i) = sm n f + sm n g := by
 induction n with
 | zero => rfl
 | succ n ih => rw [sm_succ, sm_succ, sm_succ, ih]; omega
theorem sm_mul (n : Nat) (c : Int) (f : Nat → Int) : sm n (fun i => c * f i) = c * sm n f := by
 induction n with
 | zero => simp [sm_zero]
 | succ n ih => rw [sm_succ, sm_succ, ih, Int.mul_add]
theorem sm_mul' (n : Nat) (c : Int) (f : Nat → Int) : sm n (fun i => f i * c) = sm n f * c := by
 rw [Int.mul_comm, ← sm_mul]; exact sm_ext fun i _ => Int.mul_comm ..
theorem sm_zeros (n : Nat) : sm n (fun _ => 0) = 0 := by
 induction n with
 | zero => rfl
 | succ n ih => rw [sm_succ, ih]; rfl
theorem sm_swap (n m : Nat) (f : Nat → Nat → Int) : sm n (fun i => sm m fun j => f i j) = sm m fun j => sm n fun i => f i j := by
 induction n with
 | zero => simp only [sm_zero]; exact (sm_zeros m).symm
 | succ n ih => rw [sm_succ, ih, ← sm_add]; exact sm_ext fun j _ => (sm_succ ..).symm
theorem sm_delta {n a : Nat} (h : a < n) (f : Nat → Int) : sm n (fun i => if i = a then f i else 0) = f a := by
 induction n with
 | zero => omega
 | succ n ih =>
  rw [sm_succ]
  by_cases hn : a = n
  ·subst hn
   rw [if_pos rfl, sm_ext (g := fun _ => 0) fun i hi => if_neg (by omega), sm_zeros]
   omega
  ·rw [if_neg (Ne.symm hn), ih (by omega)]; omega
theorem sm_le {n : Nat} {f g : Nat → Int} (h : ∀ i, i < n → f i ≤ g i) : sm n f ≤ sm n g := by
 induction n with
 | zero => exact Int.le_refl _
 | succ n ih => rw [sm_succ, sm_succ]; have := ih fun i hi => h i (by omega); have := h n (by omega); omega
theorem yfc {n : Nat} {f : Nat → Int} (h : ∀ i, i < n → 0 ≤ f i) : 0 ≤ sm n f := by
 have := sm_le (f := fun _ => 0) (g := f) h
 rw [sm_zeros] at this; exact this
theorem sm_one {n a : Nat} (ha : a < n) {f : Nat → Int} (h : ∀ i, i < n → 0 ≤ f i) : f a ≤ sm n f := by
 rw [← sm_delta ha f]
 refine sm_le fun i hi => ?_
 split
 ·omega
 ·exact h i hi
theorem sm_sub (n : Nat) (f g : Nat → Int) : sm n (fun i => f i - g i) = sm n f - sm n g := by
 induction n with
 | zero => rfl
 | succ n ih => rw [sm_succ, sm_succ, sm_succ, ih]; omega
def pw (n : Nat) (A : Nat → Nat → Int) : Nat → Nat → Nat → Int
 | 0 => fun i j => if i = j then 1 else 0
 | d + 1 => fun i j => sm n fun k => pw n A d i k * A k j
section
variable {n : Nat} {A : Nat → Nat → Int}
theorem pw_one {i j : Nat} (hi : i < n) : pw n A 1 i j = A i j := by
 simp only [pw]
 rw [sm_ext (g := fun k => if k = i then A k j else 0) fun k _ => by
  by_cases h : i = k
  ·subst h; simp
  ·simp [h, Ne.symm h], sm_delta hi]
theorem pw_add (a : Nat) {i : Nat} (hi : i < n) : ∀ (b j : Nat), j < n → pw n A (a + b) i j = sm n fun k => pw n A a i k * pw n A b k j
 | 0, j, hj => by
  simp only [Nat.add_zero, pw]
  rw [sm_ext (g := fun k => if k = j then pw n A a i k else 0) fun k _ => by by_cases h : k = j <;> simp [h], sm_delta hj]
 | b + 1, j, hj => by
  show sm n (fun l => pw n A (a + b) i l * A l j) = _
  rw [sm_ext (g := fun l => sm n fun k => pw n A a i k * (pw n A b k l * A l j)) fun l hl => by
   rw [pw_add a hi b l hl, ← sm_mul']; exact sm_ext fun k _ => Int.mul_assoc .., sm_swap]
  refine sm_ext fun k _ => ?_
  rw [sm_mul]
  rfl
theorem yia (hA : ∀ i j, i < n → j < n → 0 ≤ A i j) : ∀ (d : Nat) {i j : Nat}, i < n → j < n → 0 ≤ pw n A d i j
 | 0, i, j, _, _ => by simp only [pw]; split <;> decide
 | d + 1, i, j, hi, hj => yfc fun k hk => Int.mul_nonneg (yia hA d hi hk) (hA k j hk hj)
theorem pw_mul (d : Nat) {i : Nat} (hi : i < n) : ∀ (k j : Nat), j < n → pw n A (d * k) i j = pw n (pw n A d) k i j
 | 0, j, _ => rfl
 | k + 1, j, hj => by
  rw [Nat.mul_succ, pw_add (d * k) hi d j hj]
  refine sm_ext fun l hl => ?_
  rw [pw_mul d hi k l hl]
def tr (n : Nat) (A : Nat → Nat → Int) : Int := sm n fun i => A i i
def cw (n : Nat) (A : Nat → Nat → Int) (d : Nat) : Int := tr n (pw n A d)
theorem cw_mul (d k : Nat) : cw n A (d * k) = cw n (pw n A d) k := sm_ext fun i hi => pw_mul d hi k i hi
theorem cw_one : cw n A 1 = tr n A := sm_ext fun i hi => pw_one hi
theorem cw_le (hA : ∀ i j, i < n → j < n → 0 ≤ A i j) (k : Nat) (hk : 1 ≤ k) : tr n A ≤ cw n A k := by
 refine sm_le fun i hi => ?_
 have key : ∀ k, 1 ≤ k → A i i ≤ pw n A k i i := by
  intro k
  induction k with
  | zero => intro h; omega
  | succ k ih =>
   intro _
   by_cases h0 : k = 0
   ·subst h0; rw [Nat.zero_add, pw_one hi]; exact Int.le_refl _
   ·have h1 := ih (by omega)
    have h2 : pw n A k i i * A i i ≤ pw n A (k + 1) i i := sm_one hi (f := fun l => pw n A k i l * A l i) fun l hl => Int.mul_nonneg (yia hA k hi hl) (hA l i hl hi)
    have h3 := hA i i hi hi
    by_cases h4 : A i i = 0
    ·rw [h4]; exact yia hA _ hi hi
    ·have h5 := Int.mul_le_mul h1 (show (1 : Int) ≤ A i i by omega) (by omega) (by omega)
     omega
 exact key k hk
theorem cw_dvd (hA : ∀ i j, i < n → j < n → 0 ≤ A i j) {d m : Nat} (h : d ∣ m) (hm : 1 ≤ m) : cw n A d ≤ cw n A m := by
 obtain ⟨k, rfl⟩ := h
 rw [cw_mul]
 refine cw_le (fun i j hi hj => yia hA d hi hj) k ?_
 cases k with
 | zero => omega
 | succ k => omega
end
end Go.PV

/-
 Plain laws: what divides numbers of closed walks.
 Conditions: none.
-/
set_option linter.all false
namespace Go.PV
section
variable {n : Nat} (hn : n ≤ 8)
def S2 (n : Nat) (f : Nat → Nat → Int) : Int := sm n fun i => sm n fun j => f i j
def S3 (n : Nat) (f : Nat → Nat → Nat → Int) : Int := sm n fun i => S2 n fun j k => f i j k
def S4 (n : Nat) (f : Nat → Nat → Nat → Nat → Int) : Int := sm n fun i => S3 n fun j k l => f i j k l
def S5 (n : Nat) (f : Nat → Nat → Nat → Nat → Nat → Int) : Int := sm n fun i => S4 n fun j k l m => f i j k l m
def l2 (i j : Nat) : Int := if i < j then 1 else 0
def l3 (i j k : Nat) : Int := if 64 * i + 8 * j + k < 64 * j + 8 * k + i ∧ 64 * i + 8 * j + k < 64 * k + 8 * i + j then 1 else 0
def l4 (i j k l : Nat) : Int := if 512 * i + 64 * j + 8 * k + l < 512 * j + 64 * k + 8 * l + i ∧ 512 * i + 64 * j + 8 * k + l < 512 * k + 64 * l + 8 * i + j ∧ 512 * i + 64 * j + 8 * k + l < 512 * l + 64 * i + 8 * j + k then 1 else 0
def l5 (i j k l m : Nat) : Int := if 4096 * i + 512 * j + 64 * k + 8 * l + m < 4096 * j + 512 * k + 64 * l + 8 * m + i ∧ 4096 * i + 512 * j + 64 * k + 8 * l + m < 4096 * k + 512 * l + 64 * m + 8 * i + j ∧
 4096 * i + 512 * j + 64 * k + 8 * l + m < 4096 * l + 512 * m + 64 * i + 8 * j + k ∧ 4096 * i + 512 * j + 64 * k + 8 * l + m < 4096 * m + 512 * i + 64 * j + 8 * k + l then 1 else 0
include hn in
end
end Go.PV

/-
 Plain laws: what divides numbers of closed walks, in short.
 Conditions: none.
-/
set_option linter.all false
namespace Go.PV
section
variable {n : Nat}
theorem cw2 (B : Nat → Nat → Int) : cw n B 2 = S2 n fun i j => B i j * B j i := sm_ext fun i hi => by
 show sm n (fun k => pw n B 1 i k * B k i) = _
 exact sm_ext fun k _ => by rw [pw_one hi]
variable (hn : n ≤ 8)
include hn
end
end Go.PV

/-
 Plain laws: closed walks on both sides.
 Conditions: none.
-/
set_option linter.all false
namespace Go.PV
section
variable {n : Nat} {G : Nat → Nat → Int}
end
end Go.PV

/-
 Plain laws: numbers of cycles.
 Conditions: none.
-/
set_option linter.all false
namespace Go.PV
theorem loop_inv {X Y : Type} {body : X → Option (X ⊕ Y)} (I : X → Prop) (R : Y → Prop) (h : ∀ x o, I x → body x = some o → match o with | .inl x' => I x' | .inr y => R y) {x0 : X} {y : Y} (h0 : I x0) (e : loopO body x0 = some y) : R y := by
 obtain ⟨n, hn⟩ := loopO_some.1 e
 clear e
 induction n generalizing x0 with
 | zero => cases hn
 | succ n ih =>
  simp only [iterO] at hn
  cases hb : body x0 with
  | none => rw [hb] at hn; cases hn
  | some o =>
   have := h x0 o h0 hb
   rw [hb] at hn
   cases o with
   | inl x' => exact ih this hn
   | inr y' => simp only [Option.some.injEq] at hn; subst hn; exact this
def mu (k : Nat) : Int := [0, 1, -1, -1, 0, -1, 1, -1, 0, 0, 1, -1, 0].getD k 0
theorem yxc {k : Nat} (h1 : 1 ≤ k) (h2 : k ≤ 12) : impl_moebius (k : Int) = some (mu k) := by
 have go : ∀ (k : Nat) (y : Int ⊕ Int), iterO impl_moebius_b1 20 ((k : Int), 1, 2) = some y → Sum.elim id id y = mu k → impl_moebius (k : Int) = some (mu k) := fun k y h h3 => by
  unfold impl_moebius
  rw [loopO_some.2 ⟨20, h⟩]
  cases y with
  | inl a => simp only [Option.bind_some, Sum.elim_inl, id] at h3 ⊢; rw [h3]
  | inr a => simp only [Option.bind_some, Sum.elim_inr, id, impl_moebius_k1] at h3 ⊢; rw [h3]
 match k, h1, h2 with
 | 1, _, _ => exact go 1 (.inr 1) rfl rfl
 | 2, _, _ => exact go 2 (.inr (-1)) rfl rfl
 | 3, _, _ => exact go 3 (.inr (-1)) rfl rfl
 | 4, _, _ => exact go 4 (.inl 0) rfl rfl
 | 5, _, _ => exact go 5 (.inr (-1)) rfl rfl
 | 6, _, _ => exact go 6 (.inr 1) rfl rfl
 | 7, _, _ => exact go 7 (.inr (-1)) rfl rfl
 | 8, _, _ => exact go 8 (.inl 0) rfl rfl
 | 9, _, _ => exact go 9 (.inl 0) rfl rfl
 | 10, _, _ => exact go 10 (.inr 1) rfl rfl
 | 11, _, _ => exact go 11 (.inr (-1)) rfl rfl
 | 12, _, _ => exact go 12 (.inl 0) rfl rfl
def cyN (c : Nat → Int) (n : Nat) : Int := sm (n + 1) fun e => if n % e = 0 then mu (n / e) * c e else 0
theorem cy_inv (c : Nat → Int) {n : Nat} (h1 : 1 ≤ n) (h2 : n ≤ 12) : sm n (fun e => if n % e = 0 then cyN c e else 0) + cyN c n = c n := by
 have : n = 1 ∨ n = 2 ∨ n = 3 ∨ n = 4 ∨ n = 5 ∨ n = 6 ∨ n = 7 ∨ n = 8 ∨ n = 9 ∨ n = 10 ∨ n = 11 ∨ n = 12 := by omega
 rcases this with rfl | rfl | rfl | rfl | rfl | rfl | rfl | rfl | rfl | rfl | rfl | rfl <;> (simp [cyN, sm_succ, sm_zero, mu] <;> omega)
section
variable {n : Nat} {G : Nat → Nat → Int} (hn : n ≤ 8) (hG : ∀ i j, i < n → j < n → 0 ≤ G i j ∧ G i j ≤ 9)
include hn hG
theorem cw_ge (d : Nat) : 0 ≤ cw n G d := yfc fun i hi => yia (fun i j hi hj => (hG i j hi hj).1) d hi hi
end
end Go.PV

/-
 Plain laws: graphs of coverings, the reference's side; both sides.
 Conditions: none.
-/
set_option linter.all false
namespace Go.PV
section
variable {n m : Nat} {p : Nat → Pt} {q : Nat → Iv}
theorem yjd (h : Curve n p) (hm : m ≤ 8) (m1 : 1 ≤ m) (hq : ∀ a, a < m → isIv (q a) = true) {i : Nat} (hi : i < m) :
  loopO (spec_CoverGraph_b2 (tab n p) (tab m q) (q i)) ([], 0) = some (if okI n p (q i) = true then .inr (tab m (cvM n p q i)) else .inl ([], false)) := by
 cases ho : okI n p (q i)
 ·rw [loopO_eq]
  simp only [spec_CoverGraph_b2, tab_len, show ((0 : Int) < (m : Int)) from by omega, decide_true, if_true, yfd (show 0 < m by omega), Option.bind_some, ysb h (hq i hi) (hq 0 (by omega)), ho, Bool.false_eq_true, if_false, Bool.not_false]
 ·have hx := loop_idx (body := spec_CoverGraph_b2 (tab n p) (tab m q) (q i)) m (fun j => (tab j (cvM n p q i), (j : Int))) (.inr (tab m (cvM n p q i))) (fun j hj => by
   simp only [spec_CoverGraph_b2, tab_len, show ((j : Int) < (m : Int)) from by omega, decide_true, if_true, idxO_tab hj, Option.bind_some, ysb h (hq i hi) (hq j hj), ho, Bool.not_true, Bool.false_eq_true, if_false, spec_CoverGraph_k4]
   rw [← tab_succ j (cvM n p q i)]
   cases hc : covI n p (q i) (q j)
   ·have e : cvM n p q i j = 0 := by unfold cvM; rw [hc]; rfl
    rw [e]
    simp only [Bool.false_eq_true, if_false]
    rw [guardO_bind_pos (by simp [tab_len]; omega), w64_nat (show j < 9223372036854775807 by omega)]
   ·have e : cvM n p q i j = 1 := by unfold cvM; rw [hc]; rfl
    rw [e]
    simp only [if_true]
    rw [guardO_bind_pos (by simp [tab_len]; omega), w64_nat (show j < 9223372036854775807 by omega)]) (by
   simp only [spec_CoverGraph_b2, tab_len, Int.lt_irrefl, decide_false, Bool.false_eq_true, if_false])
  exact hx
theorem ykc (h : Curve n p) (hm : m ≤ 8) (m1 : 1 ≤ m) (hq : ∀ a, a < m → isIv (q a) = true) :
  (allOk n p m q → loopO (spec_CoverGraph_b1 (tab n p) (tab m q)) ([], 0) = some (.inr (mat m m (cvM n p q)))) ∧ (¬ allOk n p m q → loopO (spec_CoverGraph_b1 (tab n p) (tab m q)) ([], 0) = some (.inl ([], false))) := by
 obtain ⟨y, e1, e2⟩ := loop_run (body := spec_CoverGraph_b1 (tab n p) (tab m q)) (fun x => ∃ i : Nat, i ≤ m ∧ x = (tab i (fun a => tab m (cvM n p q a)), (i : Int)) ∧ ∀ a, a < i → okI n p (q a) = true) (fun x => m - x.2.toNat)
  (fun y => (allOk n p m q ∧ y = .inr (mat m m (cvM n p q))) ∨ (¬ allOk n p m q ∧ y = .inl ([], false))) (fun x ⟨i, hi, e, hall⟩ => by
  subst e
  by_cases hlt : i < m
  ·simp only [spec_CoverGraph_b1, tab_len, show ((i : Int) < (m : Int)) from by omega, decide_true, if_true, idxO_tab hlt, Option.bind_some, yjd h hm m1 hq hlt]
   cases ho : okI n p (q i)
   ·right
    refine ⟨.inl ([], false), by simp, .inr ⟨fun hh => ?_, rfl⟩⟩
    rw [hh i hlt] at ho; cases ho
   ·left
    refine ⟨(tab (i + 1) (fun a => tab m (cvM n p q a)), ((i + 1 : Nat) : Int)), ?_, ⟨i + 1, by omega, rfl, fun a ha => ?_⟩, by simp only [Int.toNat_natCast]; omega⟩
    ·simp only [if_true, Sum.elim_inr, spec_CoverGraph_k3, spec_CoverGraph_k2]
     rw [guardO_bind_pos (by simp [tab_len]; omega), w64_nat (show i < 9223372036854775807 by omega), ← tab_succ i (fun a => tab m (cvM n p q a))]
    ·by_cases hai : a = i
     ·subst hai; exact ho
     ·exact hall a (by omega)
  ·right
   have : i = m := by omega
   subst this
   exact ⟨.inr (tab i (fun a => tab i (cvM n p q a))), by simp only [spec_CoverGraph_b1, tab_len, Int.lt_irrefl, decide_false, Bool.false_eq_true, if_false], .inl ⟨hall, rfl⟩⟩) ([], 0) ⟨0, by omega, rfl, fun a ha => by omega⟩
 rw [e1]
 refine ⟨fun hh => ?_, fun hh => ?_⟩
 ·rcases e2 with ⟨_, e2⟩ | ⟨e2, _⟩
  ·rw [e2]
  ·exact absurd hh e2
 ·rcases e2 with ⟨e2, _⟩ | ⟨_, e2⟩
  ·exact absurd e2 hh
  ·rw [e2]
end
theorem yyc (f : List Pt) (l : List Iv) (hf : f.length ≤ 4611686018427387904) (hl : l.length ≤ 4611686018427387904) :
  (spec_CoverGraph f l = some ([], false) ∧ impl_CoverGraph f l = some ([], false)) ∨ ∃ (m : Nat) (G : Nat → Nat → Int), 1 ≤ m ∧ m ≤ 8 ∧ (∀ i j, i < m → j < m → 0 ≤ G i j ∧ G i j ≤ 1) ∧ spec_imGood f = some true ∧ areIv l = true ∧ spec_CoverGraph f l = some (mat m m G, true) ∧ impl_CoverGraph f l = some (mat m m G, true) := by
 obtain ⟨c, s1, s2, s3⟩ := yrd f hf
 unfold spec_CoverGraph impl_CoverGraph
 rw [s1, s2, ywa l hl, ygb l hl]
 cases c
 ·exact .inl ⟨rfl, rfl⟩
 ·cases ha : areIv l
  ·exact .inl ⟨rfl, rfl⟩
  ·obtain ⟨n, p, rfl, n2, n12, hp⟩ := s3 rfl
   have hc := Curve.of_map hp n2 n12
   have ha' := ha
   simp only [areIv, Bool.and_eq_true, inB_iff, List.all_eq_true] at ha'
   obtain ⟨⟨l1, l8⟩, hall⟩ := ha'
   obtain ⟨m, hm⟩ : ∃ m, l.length = m := ⟨_, rfl⟩
   obtain ⟨q, hqd⟩ : ∃ q : Nat → Iv, ∀ i, q i = l.getD i default := ⟨_, fun _ => rfl⟩
   have e : l = tab m q := by
    have e := tab_eta l
    rw [hm] at e
    exact e.trans (tab_ext fun i _ => (hqd i).symm)
   have hq : ∀ a, a < m → isIv (q a) = true := fun a ha => by
    refine hall _ ?_
    have : l[a]? = some (q a) := by rw [e, tab_get ha]
    exact List.mem_of_getElem? this
   rw [hm] at l1 l8
   subst e
   obtain ⟨g1, g2⟩ := ykc hc (show m ≤ 8 by omega) (by omega) hq
   obtain ⟨b, F, i1, i2, i3⟩ := yjc hc (show m ≤ 8 by omega) hq
   simp only [Option.bind_some, Bool.not_true, Bool.false_eq_true, if_false, tab_len, yoa m (by omega), i1, impl_CoverGraph_k1]
   by_cases hok : allOk n p m q
   ·right
    obtain ⟨b0, hF⟩ := i3 hok
    refine ⟨m, cvM n p q, by omega, by omega, fun i j _ _ => by unfold cvM; split <;> omega, trivial, trivial, by rw [g1 hok]; rfl, ?_⟩
    rw [b0]
    simp only [Bool.false_eq_true, if_false]
    rw [mat_ext fun a c ha hc => hF a c ha hc]
   ·left
    rw [g2 hok, i2 hok]
    exact ⟨rfl, rfl⟩
end Go.PV

/-
 Plain laws: sequences of whole numbers, their sums and products.
 Conditions: none.
-/
set_option linter.all false
namespace Go.PV
def cv (f g : Nat → Int) : Nat → Int
 | 0 => f 0 * g 0
 | k + 1 => f 0 * g (k + 1) + cv (fun i => f (i + 1)) g k
def Ser : Type := Nat → Int
namespace Ser
def mk (f : Nat → Int) : Ser := f
def at' (f : Ser) (k : Nat) : Int := f k
theorem ext {f g : Ser} (h : ∀ k, f.at' k = g.at' k) : f = g := funext h
instance : Add Ser := ⟨fun f g k => f k + g k⟩
instance : Mul Ser := ⟨cv⟩
def C (a : Int) : Ser := fun k => if k = 0 then a else 0
def sh (f : Ser) : Ser := fun k => match k with | 0 => 0 | k + 1 => f k
def D (f : Ser) : Ser := fun k => (k : Int) * f k
theorem add_at (f g : Ser) (k : Nat) : (f + g).at' k = f.at' k + g.at' k := rfl
theorem sh_zero (f : Ser) : (sh f).at' 0 = 0 := rfl
theorem sh_succ (f : Ser) (k : Nat) : (sh f).at' (k + 1) = f.at' k := rfl
theorem D_at (f : Ser) (k : Nat) : (D f).at' k = (k : Int) * f.at' k := rfl
theorem C_zero (a : Int) : (C a).at' 0 = a := rfl
theorem C_succ (a : Int) (k : Nat) : (C a).at' (k + 1) = 0 := rfl
theorem cv_add (k : Nat) : ∀ f g h : Nat → Int, cv f (fun i => g i + h i) k = cv f g k + cv f h k := by
 induction k with
 | zero => intro f g h; simp only [cv]; rw [Int.mul_add]
 | succ k ih => intro f g h; simp only [cv]; rw [ih, Int.mul_add]; omega
theorem cv_add' (k : Nat) : ∀ f g h : Nat → Int, cv (fun i => f i + g i) h k = cv f h k + cv g h k := by
 induction k with
 | zero => intro f g h; simp only [cv]; rw [Int.add_mul]
 | succ k ih => intro f g h; simp only [cv]; rw [ih (fun i => f (i + 1)) (fun i => g (i + 1)), Int.add_mul]; omega
theorem cv_mul (k : Nat) (a : Int) : ∀ f g : Nat → Int, cv (fun i => a * f i) g k = a * cv f g k := by
 induction k with
 | zero => intro f g; simp only [cv]; rw [Int.mul_assoc]
 | succ k ih => intro f g; simp only [cv]; rw [ih (fun i => f (i + 1)), Int.mul_add, Int.mul_assoc]
theorem cv_succ' (k : Nat) : ∀ f g : Nat → Int, cv f g (k + 1) = cv f (fun i => g (i + 1)) k + f (k + 1) * g 0 := by
 induction k with
 | zero => intro f g; simp only [cv]
 | succ k ih => intro f g; rw [show cv f g (k + 1 + 1) = f 0 * g (k + 1 + 1) + cv (fun i => f (i + 1)) g (k + 1) from rfl, ih, show cv f (fun i => g (i + 1)) (k + 1) = f 0 * g (k + 1 + 1) + cv (fun i => f (i + 1)) (fun i => g (i + 1)) k from rfl]; omega
theorem cv_comm (k : Nat) : ∀ f g : Nat → Int, cv f g k = cv g f k := by
 induction k with
 | zero => intro f g; exact Int.mul_comm ..
 | succ k ih => intro f g; rw [cv_succ' k g f, show cv f g (k + 1) = f 0 * g (k + 1) + cv (fun i => f (i + 1)) g k from rfl, ih, Int.mul_comm]; omega
theorem cv_assoc (k : Nat) : ∀ f g h : Nat → Int, cv (cv f g) h k = cv f (cv g h) k := by
 induction k with
 | zero => intro f g h; exact Int.mul_assoc ..
 | succ k ih =>
  intro f g h
  have e1 : cv (cv f g) h (k + 1) = f 0 * g 0 * h (k + 1) + cv (fun i => f 0 * g (i + 1) + cv (fun i => f (i + 1)) g i) h k := rfl
  have e2 : cv f (cv g h) (k + 1) = f 0 * (g 0 * h (k + 1) + cv (fun i => g (i + 1)) h k) + cv (fun i => f (i + 1)) (cv g h) k := rfl
  rw [e1, e2, cv_add' k (fun i => f 0 * g (i + 1)), cv_mul k (f 0) (fun i => g (i + 1)), ih, Int.mul_add, Int.mul_assoc]
  omega
theorem mul_comm' (f g : Ser) : f * g = g * f := funext fun k => cv_comm k f g
theorem mul_assoc' (f g h : Ser) : f * g * h = f * (g * h) := funext fun k => cv_assoc k f g h
theorem mul_add' (f g h : Ser) : f * (g + h) = f * g + f * h := funext fun k => cv_add k f g h
theorem add_mul' (f g h : Ser) : (f + g) * h = f * h + g * h := funext fun k => cv_add' k f g h
theorem add_comm' (f g : Ser) : f + g = g + f := funext fun k => Int.add_comm ..
theorem add_assoc' (f g h : Ser) : f + g + h = f + (g + h) := funext fun k => Int.add_assoc ..
instance : Std.Associative (α := Ser) (· * ·) := ⟨mul_assoc'⟩
instance : Std.Commutative (α := Ser) (· * ·) := ⟨mul_comm'⟩
instance : Std.Associative (α := Ser) (· + ·) := ⟨add_assoc'⟩
instance : Std.Commutative (α := Ser) (· + ·) := ⟨add_comm'⟩
theorem sh_mul (f g : Ser) : sh f * g = sh (f * g) := funext fun k => by
 cases k with
 | zero => show (0 : Int) * g 0 = 0; omega
 | succ k => show (0 : Int) * g (k + 1) + cv (fun i => f i) g k = cv f g k; simp
theorem mul_sh (f g : Ser) : f * sh g = sh (f * g) := by rw [mul_comm', sh_mul, mul_comm']
theorem C_mul_at (a : Int) (f : Ser) (k : Nat) : (C a * f).at' k = a * f.at' k := by
 cases k with
 | zero => rfl
 | succ k =>
  show a * f (k + 1) + cv (fun i => C a (i + 1)) f k = _
  have : ∀ k, cv (fun _ => (0 : Int)) f k = 0 := by
   intro k; induction k with
   | zero => show 0 * f 0 = 0; omega
   | succ k ih => show 0 * f (k + 1) + cv (fun _ => (0 : Int)) f k = 0; rw [ih]; omega
  rw [show (fun i => C a (i + 1)) = fun _ => (0 : Int) from rfl, this]
  show a * f (k + 1) + 0 = a * f (k + 1)
  omega
theorem mul_C_at (a : Int) (f : Ser) (k : Nat) : (f * C a).at' k = f.at' k * a := by rw [mul_comm', C_mul_at, Int.mul_comm]
theorem one_mul' (f : Ser) : C 1 * f = f := ext fun k => by rw [C_mul_at, Int.one_mul]
theorem mul_one' (f : Ser) : f * C 1 = f := by rw [mul_comm', one_mul']
theorem zero_mul' (f : Ser) : C 0 * f = C 0 := ext fun k => by rw [C_mul_at]; cases k <;> simp [C_zero, C_succ]
theorem add_zero' (f : Ser) : f + C 0 = f := ext fun k => by rw [add_at]; cases k <;> simp [C_zero, C_succ]
theorem zero_add' (f : Ser) : C 0 + f = f := by rw [add_comm', add_zero']
theorem sh_add (f g : Ser) : sh (f + g) = sh f + sh g := funext fun k => by cases k <;> rfl
theorem sh_0 : sh (C 0) = C 0 := funext fun k => by
 cases k with
 | zero => rfl
 | succ k => show C 0 k = 0; unfold C; split <;> rfl
theorem add_left {f g h : Ser} (e : f + g = f + h) : g = h := ext fun k => by have := congrArg (fun s => at' s k) e; simp only [add_at] at this; omega
theorem D_add (f g : Ser) : D (f + g) = D f + D g := ext fun k => by simp only [D_at, add_at]; rw [Int.mul_add]
theorem D_C (a : Int) : D (C a) = C 0 := ext fun k => by
 cases k with
 | zero => simp [D_at, C_zero]
 | succ k => simp [D_at, C_succ]
theorem D_sh (f : Ser) : D (sh f) = sh f + sh (D f) := ext fun k => by
 cases k with
 | zero => simp [D_at, add_at, sh_zero]
 | succ k => rw [D_at, add_at, sh_succ, sh_succ, D_at]; rw [show ((k + 1 : Nat) : Int) = (k : Int) + 1 by omega, Int.add_mul]; omega
theorem D_mul (f g : Ser) : D (f * g) = D f * g + f * D g := by
 have key : ∀ k : Nat, ∀ f g : Nat → Int, (k : Int) * cv f g k = cv (fun i => (i : Int) * f i) g k + cv f (fun i => (i : Int) * g i) k := by
  intro k
  induction k with
  | zero => intro f g; simp [cv]
  | succ k ih =>
   intro f g
   have h := ih (fun i => f (i + 1)) g
   have e1 : (fun i : Nat => ((i + 1 : Nat) : Int) * f (i + 1)) = fun i : Nat => (i : Int) * f (i + 1) + f (i + 1) := funext fun i => by rw [show ((i + 1 : Nat) : Int) = (i : Int) + 1 by omega, Int.add_mul]; omega
   have e2 : cv (fun i => (i : Int) * f i) g (k + 1) = ((0 : Nat) : Int) * f 0 * g (k + 1) + cv (fun i : Nat => ((i + 1 : Nat) : Int) * f (i + 1)) g k := rfl
   have e3 : cv f (fun i => (i : Int) * g i) (k + 1) = f 0 * (((k + 1 : Nat) : Int) * g (k + 1)) + cv (fun i => f (i + 1)) (fun i => (i : Int) * g i) k := rfl
   have e4 : cv f g (k + 1) = f 0 * g (k + 1) + cv (fun i => f (i + 1)) g k := rfl
   rw [e2, e3, e4, e1, cv_add' k (fun i => (i : Int) * f (i + 1)), Int.mul_add]
   have e5 : ((k + 1 : Nat) : Int) * cv (fun i => f (i + 1)) g k = (k : Int) * cv (fun i => f (i + 1)) g k + cv (fun i => f (i + 1)) g k := by rw [show ((k + 1 : Nat) : Int) = (k : Int) + 1 by omega, Int.add_mul]; omega
   have e6 : f 0 * (((k + 1 : Nat) : Int) * g (k + 1)) = ((k + 1 : Nat) : Int) * (f 0 * g (k + 1)) := by rw [Int.mul_left_comm]
   rw [e5, e6, h]
   simp only [Int.ofNat_zero, Int.zero_mul, Int.natCast_zero]
   omega
 exact funext fun k => key k f g
def ls : List Nat → (Nat → Ser) → Ser
 | [], _ => C 0
 | v :: S, f => f v + ls S f
theorem ls_ext {f g : Nat → Ser} : ∀ {S : List Nat}, (∀ i, i ∈ S → f i = g i) → ls S f = ls S g
 | [], _ => rfl
 | v :: S, h => by simp only [ls]; rw [h v (by simp), ls_ext fun i hi => h i (by simp [hi])]
theorem ls_add (f g : Nat → Ser) : ∀ S, ls S (fun i => f i + g i) = ls S f + ls S g
 | [] => (add_zero' _).symm
 | v :: S => by simp only [ls]; rw [ls_add f g S]; ac_rfl
theorem ls_mul (c : Ser) (f : Nat → Ser) : ∀ S, ls S (fun i => c * f i) = c * ls S f
 | [] => by simp only [ls]; rw [mul_comm', zero_mul']
 | v :: S => by simp only [ls]; rw [ls_mul c f S, mul_add']
theorem ls_mul' (c : Ser) (f : Nat → Ser) (S : List Nat) : ls S (fun i => f i * c) = ls S f * c := by
 rw [mul_comm', ← ls_mul]; exact ls_ext fun i _ => mul_comm' ..
theorem ls_zeros : ∀ S, ls S (fun _ => C 0) = C 0
 | [] => rfl
 | v :: S => by simp only [ls]; rw [ls_zeros S, add_zero']
theorem ls_swap (f : Nat → Nat → Ser) (T : List Nat) : ∀ S, ls S (fun i => ls T fun j => f i j) = ls T fun j => ls S fun i => f i j
 | [] => (ls_zeros T).symm
 | v :: S => by simp only [ls]; rw [ls_swap f T S, ← ls_add]
theorem ls_sh (f : Nat → Ser) : ∀ S, ls S (fun i => sh (f i)) = sh (ls S f)
 | [] => sh_0.symm
 | v :: S => by simp only [ls]; rw [ls_sh f S, sh_add]
theorem ls_D (f : Nat → Ser) : ∀ S, ls S (fun i => D (f i)) = D (ls S f)
 | [] => (D_C 0).symm
 | v :: S => by simp only [ls]; rw [ls_D f S, D_add]
theorem ls_at {f g : Nat → Ser} {a b : Nat} : ∀ {S : List Nat}, (∀ i, i ∈ S → (f i).at' a = (g i).at' b) → (ls S f).at' a = (ls S g).at' b ∨ S = []
 | [], _ => .inr rfl
 | [v], h => by left; simp only [ls, add_zero']; exact h v (by simp)
 | v :: w :: S, h => by
  left
  rcases ls_at (S := w :: S) fun i hi => h i (List.mem_cons_of_mem _ hi) with e | e
  ·have := h v (by simp)
   simp only [ls, add_at] at e ⊢
   omega
  ·cases e
theorem ls_at_eq {f g : Nat → Ser} {a : Nat} {S : List Nat} (h : ∀ i, i ∈ S → (f i).at' a = (g i).at' a) : (ls S f).at' a = (ls S g).at' a := by
 rcases ls_at h with e | e
 ·exact e
 ·subst e; rfl
theorem ywd {f : Nat → Ser} {a : Nat} : ∀ {S : List Nat}, (∀ i, i ∈ S → (f i).at' a = 0) → (ls S f).at' a = 0
 | [], _ => by cases a <;> rfl
 | v :: S, h => by simp only [ls, add_at]; rw [h v (by simp), ywd fun i hi => h i (by simp [hi])]; rfl
end Ser
end Go.PV

/-
 Plain laws: walks within a list of states; a sequence that begins with 1, obeys Newton's identities, and ends.
 Conditions: none.
-/
set_option linter.all false
namespace Go.PV
namespace Ser
def wk (A : Nat → Nat → Int) (S : List Nat) : Nat → Nat → Nat → Int
 | 0, i, j => if i = j then 1 else 0
 | k + 1, i, j => (ls S (fun l => C (wk A S k i l * A l j))).at' 0
def R (A : Nat → Nat → Int) (S : List Nat) (i j : Nat) : Ser := mk fun k => wk A S k i j
def del (i j : Nat) : Ser := if i = j then C 1 else C 0
def fst' (A : Nat → Nat → Int) (v : Nat) (S : List Nat) : Ser := sh (C (A v v)) + sh (sh (ls S fun i => ls S fun j => C (A v i) * R A S i j * C (A j v)))
def gT (A : Nat → Nat → Int) (v : Nat) (S : List Nat) (j : Nat) : Ser := sh (ls S fun i => C (A v i) * R A S i j)
def hT (A : Nat → Nat → Int) (v : Nat) (S : List Nat) (i : Nat) : Ser := sh (ls S fun j => R A S i j * C (A j v))
section
variable {A : Nat → Nat → Int}
theorem del_zero (i j : Nat) : (del i j).at' 0 = if i = j then 1 else 0 := by unfold del; split <;> rfl
theorem del_succ (i j k : Nat) : (del i j).at' (k + 1) = 0 := by unfold del; split <;> rfl
theorem R_eq (S : List Nat) (i j : Nat) : R A S i j = del i j + sh (ls S fun l => R A S i l * C (A l j)) := ext fun k => by
 cases k with
 | zero => rw [add_at, del_zero, sh_zero, Int.add_zero]; rfl
 | succ k =>
  rw [add_at, del_succ, sh_succ, Int.zero_add]
  show (ls S (fun l => C (wk A S k i l * A l j))).at' 0 = _
  rcases ls_at (S := S) (f := fun l => C (wk A S k i l * A l j)) (g := fun l => R A S i l * C (A l j)) (a := 0) (b := k) fun l _ => by rw [mul_C_at]; rfl with e | e
  ·exact e
  ·subst e; cases k <;> rfl
theorem row_one {S : List Nat} {b x y : Nat → Ser} (hx : ∀ j, j ∈ S → x j = b j + sh (ls S fun l => x l * C (A l j))) (hy : ∀ j, j ∈ S → y j = b j + sh (ls S fun l => y l * C (A l j))) : ∀ j, j ∈ S → x j = y j := by
 have key : ∀ k, ∀ j, j ∈ S → (x j).at' k = (y j).at' k := by
  intro k
  induction k with
  | zero => intro j hj; rw [hx j hj, hy j hj, add_at, add_at, sh_zero, sh_zero]
  | succ k ih =>
   intro j hj
   rw [hx j hj, hy j hj, add_at, add_at, sh_succ, sh_succ]
   rw [ls_at_eq (S := S) (f := fun l => x l * C (A l j)) (g := fun l => y l * C (A l j)) (a := k) fun l hl => by rw [mul_C_at, mul_C_at, ih l hl]]
 exact fun j hj => ext fun k => key k j hj
theorem ls_del {S : List Nat} (hS : S.Nodup) {j : Nat} (hj : j ∈ S) (f : Nat → Ser) : ls S (fun l => f l * del l j) = f j := by
 induction S with
 | nil => cases hj
 | cons v S ih =>
  have hv := List.nodup_cons.1 hS
  simp only [ls]
  by_cases h : v = j
  ·subst h
   rw [ls_ext (g := fun _ => C 0) fun i hi => by
    have : i ≠ v := fun h => hv.1 (h ▸ hi)
    unfold del; rw [if_neg this, mul_comm', zero_mul'], ls_zeros, add_zero']
   unfold del; rw [if_pos rfl, mul_one']
  ·have : j ∈ S := by
    rcases List.mem_cons.1 hj with h' | h'
    ·exact absurd h'.symm h
    ·exact h'
   rw [ih hv.2 this]
   unfold del; rw [if_neg h, mul_comm', zero_mul', zero_add']
section
variable {v : Nat} {S : List Nat}
theorem g_eq (hS : S.Nodup) {j : Nat} (hj : j ∈ S) : gT A v S j = sh (C (A v j)) + sh (ls S fun l => gT A v S l * C (A l j)) := by
 have e1 : (ls S fun i => C (A v i) * R A S i j) = C (A v j) + ls S (fun i => C (A v i) * sh (ls S fun l => R A S i l * C (A l j))) := by
  rw [ls_ext (g := fun i => C (A v i) * del i j + C (A v i) * sh (ls S fun l => R A S i l * C (A l j))) fun i _ => by rw [← mul_add', ← R_eq], ls_add, ls_del hS hj]
 have e2 : ls S (fun i => C (A v i) * sh (ls S fun l => R A S i l * C (A l j))) = ls S fun l => gT A v S l * C (A l j) := by
  rw [ls_ext (g := fun i => ls S fun l => sh (C (A v i) * R A S i l * C (A l j))) fun i _ => by
   rw [mul_sh, ← ls_mul, ls_sh]; exact congrArg sh (ls_ext fun l _ => by ac_rfl), ls_swap]
  refine ls_ext fun l _ => ?_
  unfold gT
  rw [sh_mul, ls_sh, ls_mul']
 rw [show gT A v S j = sh (ls S fun i => C (A v i) * R A S i j) from rfl, e1, e2, sh_add]
theorem f_eq : fst' A v S = sh (C (A v v)) + sh (ls S fun l => gT A v S l * C (A l v)) := by
 unfold fst' gT
 congr 2
 rw [ls_ext (f := fun l => sh (ls S fun i => C (A v i) * R A S i l) * C (A l v)) (g := fun l => sh (ls S fun i => C (A v i) * R A S i l * C (A l v))) fun l _ => by rw [sh_mul, ls_mul'], ls_sh, ls_swap]
theorem up_row (hS : S.Nodup) {j : Nat} (hj : j ∈ S) (hv : v ∉ S) : R A (v :: S) v j = R A (v :: S) v v * gT A v S j := by
 refine row_one (A := A) (S := S) (b := fun j => sh (R A (v :: S) v v * C (A v j))) (x := fun j => R A (v :: S) v j) (y := fun j => R A (v :: S) v v * gT A v S j) (fun j hj => ?_) (fun j hj => ?_) j hj
 ·have : v ≠ j := fun h => hv (h ▸ hj)
  rw [R_eq, ls, sh_add]
  unfold del
  rw [if_neg this, zero_add']
 ·rw [g_eq hS hj, mul_add', mul_sh, mul_sh, ← ls_mul, ← mul_sh, mul_sh]
  congr 2
  exact ls_ext fun l _ => by ac_rfl
theorem U_eq (hS : S.Nodup) (hv : v ∉ S) : R A (v :: S) v v = C 1 + R A (v :: S) v v * fst' A v S := by
 have e : R A (v :: S) v v = del v v + sh (ls (v :: S) fun l => R A (v :: S) v l * C (A l v)) := R_eq _ _ _
 rw [f_eq, mul_add', mul_sh, mul_sh, ← ls_mul]
 rw [ls, ls_ext (S := S) (g := fun l => R A (v :: S) v v * (gT A v S l * C (A l v))) fun l hl => by rw [up_row hS hl hv]; ac_rfl, sh_add] at e
 unfold del at e
 rw [if_pos rfl] at e
 exact e
theorem up_col (hS : S.Nodup) (hv : v ∉ S) {i : Nat} (hi : i ∈ S) : ∀ j, j ∈ S → R A (v :: S) i j = R A S i j + R A (v :: S) i v * gT A v S j := by
 refine row_one (A := A) (S := S) (b := fun j => del i j + sh (R A (v :: S) i v * C (A v j))) (x := fun j => R A (v :: S) i j) (y := fun j => R A S i j + R A (v :: S) i v * gT A v S j) (fun j hj => ?_) (fun j hj => ?_)
 ·show R A (v :: S) i j = _
  rw [R_eq (v :: S), ls, sh_add, add_assoc']
 ·have e1 := R_eq (A := A) S i j
  have e2 := g_eq (A := A) (v := v) hS hj
  show R A S i j + R A (v :: S) i v * gT A v S j = _
  rw [ls_ext (S := S) (f := fun l => (R A S i l + R A (v :: S) i v * gT A v S l) * C (A l j)) (g := fun l => R A S i l * C (A l j) + R A (v :: S) i v * (gT A v S l * C (A l j))) fun l _ => by rw [add_mul', mul_assoc'], ls_add, ls_mul, sh_add]
  have e3 : R A (v :: S) i v * gT A v S j = sh (R A (v :: S) i v * C (A v j)) + sh (R A (v :: S) i v * ls S fun l => gT A v S l * C (A l j)) := by
   rw [← mul_sh, ← mul_sh, ← mul_add', ← e2]
  rw [e3, e1]
  ac_rfl
theorem X_eq (hS : S.Nodup) (hv : v ∉ S) {i : Nat} (hi : i ∈ S) : R A (v :: S) i v = hT A v S i * R A (v :: S) v v := by
 have hne : i ≠ v := fun h => hv (h ▸ hi)
 have e : R A (v :: S) i v = del i v + sh (ls (v :: S) fun l => R A (v :: S) i l * C (A l v)) := R_eq _ _ _
 rw [ls, ls_ext (S := S) (g := fun l => R A S i l * C (A l v) + R A (v :: S) i v * (gT A v S l * C (A l v))) fun l hl => by rw [up_col hS hv hi l hl, add_mul', mul_assoc'], ls_add, ls_mul, sh_add, sh_add] at e
 unfold del at e
 rw [if_neg hne, zero_add'] at e
 have e2 : R A (v :: S) i v = hT A v S i + R A (v :: S) i v * fst' A v S := by
  rw [f_eq, mul_add', mul_sh, mul_sh]
  refine e.trans ?_
  unfold hT
  ac_rfl
 -- X = h + X f, U = 1 + U f
 have e3 := U_eq (A := A) hS hv
 have e4 : R A (v :: S) i v * R A (v :: S) v v = R A (v :: S) i v + R A (v :: S) i v * R A (v :: S) v v * fst' A v S := by
  have := congrArg (fun s => R A (v :: S) i v * s) e3
  simp only [mul_add', mul_one'] at this
  exact this.trans (by ac_rfl)
 have e5 : R A (v :: S) i v * R A (v :: S) v v = hT A v S i * R A (v :: S) v v + R A (v :: S) i v * R A (v :: S) v v * fst' A v S := by
  have := congrArg (fun s => s * R A (v :: S) v v) e2
  simp only [add_mul'] at this
  refine this.trans ?_
  ac_rfl
 have e6 := e4.symm.trans e5
 refine add_left (f := R A (v :: S) i v * R A (v :: S) v v * fst' A v S) ?_
 rw [add_comm', e6, add_comm']
end
theorem R_cut {S : List Nat} (hS : S.Nodup) {i j : Nat} (hi : i ∈ S) (hj : j ∈ S) : (ls S fun l => R A S i l * R A S l j) = R A S i j + D (R A S i j) := by
 refine row_one (A := A) (S := S) (b := fun j => R A S i j) (x := fun j => ls S fun l => R A S i l * R A S l j) (y := fun j => R A S i j + D (R A S i j)) (fun j hj => ?_) (fun j hj => ?_) j hj
 ·show (ls S fun l => R A S i l * R A S l j) = _
  rw [ls_ext (g := fun l => R A S i l * del l j + R A S i l * sh (ls S fun m => R A S l m * C (A m j))) fun l _ => by rw [← mul_add', ← R_eq], ls_add, ls_del hS hj]
  congr 1
  rw [ls_ext (g := fun l => sh (ls S fun m => R A S i l * R A S l m * C (A m j))) fun l _ => by
   rw [mul_sh, ← ls_mul]; exact congrArg sh (ls_ext fun m _ => by ac_rfl), ls_sh, ls_swap]
  exact congrArg sh (ls_ext fun m _ => ls_mul' ..)
 ·show R A S i j + D (R A S i j) = R A S i j + _
  congr 1
  have h := congrArg D (R_eq (A := A) S i j)
  rw [h, D_add, D_sh, show D (del i j) = C 0 by unfold del; split <;> exact D_C _, zero_add', ← sh_add, ← ls_D, ← ls_add]
  refine congrArg sh (ls_ext fun l _ => ?_)
  rw [D_mul, D_C, mul_comm' (R A S i l) (C 0), zero_mul', add_zero', add_mul']
def P (A : Nat → Nat → Int) (S : List Nat) : Ser := ls S fun i => sh (ls S fun l => R A S i l * C (A l i))
theorem P_add (S : List Nat) : (ls S fun i => R A S i i) = (ls S fun _ => C 1) + P A S := by
 unfold P
 rw [← ls_add]
 exact ls_ext fun i _ => by rw [R_eq]; unfold del; rw [if_pos rfl]
theorem P_zero (S : List Nat) : (P A S).at' 0 = 0 := ywd fun i _ => sh_zero _
theorem Df_eq {v : Nat} {S : List Nat} (hS : S.Nodup) : D (fst' A v S) = fst' A v S + ls S fun i => hT A v S i * gT A v S i := by
 have e1 : (ls S fun i => hT A v S i * gT A v S i) = sh (sh (ls S fun i => ls S fun j => C (A v i) * (R A S i j + D (R A S i j)) * C (A j v))) := by
  have e2 : (ls S fun i => ls S fun j => C (A v i) * (R A S i j + D (R A S i j)) * C (A j v)) = ls S fun i => ls S fun j => ls S fun l => C (A v i) * (R A S i l * R A S l j) * C (A j v) := ls_ext fun i hi => ls_ext fun j hj => by
   rw [← R_cut hS hi hj, ← ls_mul, ← ls_mul']
  rw [e2, ls_ext (g := fun i => ls S fun l => ls S fun j => C (A v i) * (R A S i l * R A S l j) * C (A j v)) fun i _ => ls_swap .., ls_swap, ← ls_sh, ← ls_sh]
  refine ls_ext fun l _ => ?_
  unfold hT gT
  rw [sh_mul, mul_sh, mul_comm', ← ls_mul']
  refine congrArg sh (congrArg sh (ls_ext fun i _ => ?_))
  rw [← ls_mul]
  exact ls_ext fun j _ => by ac_rfl
 have e3 : (ls S fun i => ls S fun j => C (A v i) * (R A S i j + D (R A S i j)) * C (A j v)) = (ls S fun i => ls S fun j => C (A v i) * R A S i j * C (A j v)) + D (ls S fun i => ls S fun j => C (A v i) * R A S i j * C (A j v)) := by
  rw [← ls_D, ← ls_add]
  refine ls_ext fun i _ => ?_
  rw [← ls_D, ← ls_add]
  refine ls_ext fun j _ => ?_
  rw [D_mul, D_mul, D_C, D_C, zero_mul', zero_add', mul_comm' _ (C 0), zero_mul', add_zero', mul_add', add_mul']
 rw [e1, e3]
 unfold fst'
 generalize (ls S fun i => ls S fun j => C (A v i) * R A S i j * C (A j v)) = F
 rw [D_add, D_sh, D_sh, D_sh, D_C, sh_0, add_zero', sh_add, sh_add, sh_add]
 ac_rfl
theorem P_up {v : Nat} {S : List Nat} (hS : S.Nodup) (hv : v ∉ S) : P A (v :: S) = P A S + D (fst' A v S) * R A (v :: S) v v := by
 have e := P_add (A := A) (v :: S)
 have e0 := P_add (A := A) S
 rw [ls, ls, ls_ext (S := S) (g := fun i => R A S i i + hT A v S i * gT A v S i * R A (v :: S) v v) fun i hi => by rw [up_col hS hv hi i hi, X_eq hS hv hi]; ac_rfl, ls_add, ls_mul', e0] at e
 have eU := U_eq (A := A) hS hv
 rw [Df_eq hS, add_mul']
 refine add_left (f := C 1 + ls S fun _ => C 1) ?_
 rw [← e]
 generalize (ls S fun i => hT A v S i * gT A v S i) = H at *
 generalize R A (v :: S) v v = U at *
 rw [mul_comm' (fst' A v S) U]
 generalize hF : U * fst' A v S = F at *
 have : U + ((ls S fun x => C 1) + P A S + H * U) = C 1 + F + ((ls S fun x => C 1) + P A S + H * U) := congrArg (· + ((ls S fun x => C 1) + P A S + H * U)) eU
 rw [this]
 ac_rfl
def E (A : Nat → Nat → Int) : List Nat → Ser
 | [] => C 1
 | v :: S => E A S + C (-1) * (E A S * fst' A v S)
theorem E_up (v : Nat) (S : List Nat) : E A (v :: S) + E A S * fst' A v S = E A S := by
 show E A S + C (-1) * (E A S * fst' A v S) + E A S * fst' A v S = E A S
 refine ext fun k => ?_
 rw [add_at, add_at, C_mul_at]
 omega
theorem E_zero : ∀ S : List Nat, (E A S).at' 0 = 1
 | [] => rfl
 | v :: S => by
  have h := congrArg (fun s => at' s 0) (E_up (A := A) v S)
  simp only [add_at] at h
  have h2 : (E A S * fst' A v S).at' 0 = 0 := by
   show (E A S).at' 0 * (fst' A v S).at' 0 = 0
   have : (fst' A v S).at' 0 = 0 := rfl
   rw [this]; simp
  rw [h2, E_zero S] at h
  omega
theorem E_U {v : Nat} {S : List Nat} (hS : S.Nodup) (hv : v ∉ S) : E A (v :: S) * R A (v :: S) v v = E A S := by
 have e1 := congrArg (fun s => s * R A (v :: S) v v) (E_up (A := A) v S)
 simp only [add_mul'] at e1
 have e2 := congrArg (fun s => E A S * s) (U_eq (A := A) hS hv)
 simp only [mul_add', mul_one'] at e2
 refine add_left (f := E A S * fst' A v S * R A (v :: S) v v) ?_
 rw [add_comm', e1, e2, add_comm']
 ac_rfl
theorem newton : ∀ {S : List Nat}, S.Nodup → D (E A S) + E A S * P A S = C 0
 | [], _ => by
  show D (C 1) + C 1 * C 0 = C 0
  rw [D_C, one_mul', add_zero']
 | v :: S, h => by
  have hv := List.nodup_cons.1 h
  have ih := newton hv.2
  have e1 := E_up (A := A) v S
  have e2 := E_U (A := A) hv.2 hv.1
  have e3 := P_up (A := A) hv.2 hv.1
  have d1 := congrArg D e1
  rw [D_add, D_mul] at d1
  have p1 := congrArg (fun s => s * P A S) e1
  simp only [add_mul'] at p1
  have f1 := congrArg (fun s => s * fst' A v S) ih
  simp only [add_mul', zero_mul'] at f1
  have q : E A (v :: S) * P A (v :: S) = E A (v :: S) * P A S + E A S * D (fst' A v S) := by
   rw [e3, mul_add', ← e2]
   congr 1
   ac_rfl
  rw [q]
  refine ext fun k => ?_
  have a := congrArg (fun s => at' s k) d1
  have b := congrArg (fun s => at' s k) p1
  have c := congrArg (fun s => at' s k) f1
  have d := congrArg (fun s => at' s k) ih
  have r : E A S * P A S * fst' A v S = E A S * fst' A v S * P A S := by ac_rfl
  rw [r] at c
  have z : (C 0).at' k = 0 := by cases k <;> rfl
  simp only [add_at] at a b c d ⊢
  omega
end
end Ser
end Go.PV

/-
 Plain laws: characteristic coefficients obey Newton's identities; numbers of cycles; Euler products.
 Conditions: none.
-/
set_option linter.all false
namespace Go.PV
namespace Ser
theorem ls_snoc (f : Nat → Ser) (v : Nat) : ∀ S : List Nat, ls (S ++ [v]) f = ls S f + f v
 | [] => by simp only [List.nil_append, ls]; rw [add_zero', zero_add']
 | w :: S => by simp only [List.cons_append, ls]; rw [ls_snoc f v S, add_assoc']
theorem ls_range (f : Nat → Ser) (k : Nat) : ∀ n, (ls (List.range n) f).at' k = sm n fun i => (f i).at' k
 | 0 => by cases k <;> rfl
 | n + 1 => by rw [List.range_succ, ls_snoc, add_at, ls_range f k n, sm_succ]
section
variable {n : Nat} {A : Nat → Nat → Int}
theorem R_pw (i j : Nat) (k : Nat) : (R A (List.range n) i j).at' k = pw n A k i j := by
 have key : ∀ k j, wk A (List.range n) k i j = pw n A k i j := by
  intro k
  induction k with
  | zero => intro j; rfl
  | succ k ih => intro j; simp only [wk, pw]; rw [ls_range]; exact sm_ext fun l _ => by rw [C_zero, ih]
 exact key k j
theorem P_cw (k : Nat) : (P A (List.range n)).at' (k + 1) = cw n A (k + 1) := by
 unfold P
 rw [ls_range]
 refine sm_ext fun i _ => ?_
 rw [sh_succ, ls_range]
 show _ = sm n fun l => pw n A k i l * A l i
 exact sm_ext fun l _ => by rw [mul_C_at, R_pw]
theorem sm_front (f : Nat → Int) : ∀ n, sm (n + 1) f = f 0 + sm n fun i => f (i + 1)
 | 0 => by simp [sm_succ, sm_zero]
 | n + 1 => by rw [sm_succ, sm_front f n, sm_succ n (fun i => f (i + 1))]; omega
theorem mul_sm (k : Nat) : ∀ f g : Ser, (f * g).at' k = sm (k + 1) fun j => f.at' j * g.at' (k - j) := by
 induction k with
 | zero => intro f g; rw [sm_succ, sm_zero, Int.zero_add]; rfl
 | succ k ih =>
  intro f g
  rw [sm_front]
  have := ih (mk fun i => f.at' (i + 1)) g
  show f.at' 0 * g.at' (k + 1) + (mk (fun i => f.at' (i + 1)) * g).at' k = _
  rw [this]
  congr 1
  exact sm_ext fun j _ => by rw [show k + 1 - (j + 1) = k - j by omega]; rfl
def ec (n : Nat) (A : Nat → Nat → Int) (k : Nat) : Int := (E A (List.range n)).at' k
theorem ec_zero : ec n A 0 = 1 := E_zero _
theorem yce (k : Nat) : (k : Int) * ec n A k + sm k (fun j => ec n A j * cw n A (k - j)) = 0 := by
 have h := congrArg (fun s => at' s k) (newton (A := A) (S := List.range n) List.nodup_range)
 have z : (C 0).at' k = 0 := by cases k <;> rfl
 simp only [add_at, D_at] at h
 rw [z, mul_sm, sm_succ, Nat.sub_self, P_zero, Int.mul_zero, Int.add_zero] at h
 rw [← h]
 show _ = (k : Int) * ec n A k + _
 congr 1
 refine sm_ext fun j hj => ?_
 obtain ⟨q, hq⟩ : ∃ q, k - j = q + 1 := ⟨k - j - 1, by omega⟩
 rw [hq, P_cw]
 rfl
def T (k : Nat) : Ser := mk fun j => if j = k then 1 else 0
theorem T_zero : T 0 = C 1 := ext fun j => by cases j <;> rfl
theorem T_succ (k : Nat) : T (k + 1) = sh (T k) := ext fun j => by
 cases j with
 | zero => rfl
 | succ j => show (if j + 1 = k + 1 then (1 : Int) else 0) = if j = k then 1 else 0; simp
theorem mul_T (X : Ser) : ∀ k j, (X * T k).at' j = if k ≤ j then X.at' (j - k) else 0
 | 0, j => by rw [T_zero, mul_one']; simp
 | k + 1, 0 => by rw [T_succ, mul_sh]; simp [sh_zero]
 | k + 1, j + 1 => by
  rw [T_succ, mul_sh, sh_succ, mul_T X k j]
  by_cases h : k ≤ j
  ·rw [if_pos h, if_pos (by omega), show j + 1 - (k + 1) = j - k by omega]
  ·rw [if_neg h, if_neg (by omega)]
theorem D_T (k : Nat) : D (T k) = C (k : Int) * T k := ext fun j => by
 rw [C_mul_at, D_at]
 show (j : Int) * (if j = k then 1 else 0) = (k : Int) * if j = k then 1 else 0
 by_cases h : j = k
 ·subst h; rfl
 ·rw [if_neg h]; simp
def Lk (k : Nat) : Ser := mk fun j => if 1 ≤ j ∧ j % k = 0 then (k : Int) else 0
theorem Lk_eq {k : Nat} (hk : 1 ≤ k) : Lk k = Lk k * T k + C (k : Int) * T k := ext fun j => by
 rw [add_at, mul_T, C_mul_at]
 show (if 1 ≤ j ∧ j % k = 0 then (k : Int) else 0) = (if k ≤ j then (if 1 ≤ j - k ∧ (j - k) % k = 0 then (k : Int) else 0) else 0) + (k : Int) * (if j = k then 1 else 0)
 by_cases h : k ≤ j
 ·rw [if_pos h]
  have hm : (j - k) % k = j % k := by
   have := Nat.sub_add_cancel h
   conv => rhs; rw [← this]
   rw [Nat.add_mod_right]
  rw [hm]
  by_cases hj : j = k
  ·subst hj
   have : ¬ (1 ≤ j - j ∧ j % j = 0) := by omega
   rw [if_neg this, if_pos ⟨hk, Nat.mod_self j⟩]
   simp
  ·rw [if_neg hj]
   by_cases h0 : j % k = 0
   ·rw [if_pos ⟨by omega, h0⟩, if_pos ⟨by omega, h0⟩]; simp
   ·rw [if_neg (fun h => h0 h.2), if_neg (fun h => h0 h.2)]; simp
 ·rw [if_neg h]
  have : ¬ (1 ≤ j ∧ j % k = 0) := fun ⟨h1, h2⟩ => by rw [Nat.mod_eq_of_lt (by omega)] at h2; omega
  rw [if_neg this, if_neg (by omega)]
  simp
def fac (k : Nat) (X : Ser) : Ser := X + C (-1) * (X * T k)
theorem fac_up (k : Nat) (X : Ser) : fac k X + X * T k = X := ext fun j => by
 unfold fac
 rw [add_at, add_at, C_mul_at]; omega
theorem fac_at (k : Nat) (X : Ser) (j : Nat) : (fac k X).at' j = X.at' j - if k ≤ j then X.at' (j - k) else 0 := by
 unfold fac
 rw [add_at, C_mul_at, mul_T]; omega
theorem yne {k : Nat} (hk : 1 ≤ k) {X Q : Ser} (h : D X + X * Q = C 0) : D (fac k X) + fac k X * (Q + Lk k) = C 0 := by
 have e1 := fac_up k X
 have d1 := congrArg D e1
 rw [D_add, D_mul, D_T] at d1
 have p1 := congrArg (fun s => s * Q) e1
 have l1 := congrArg (fun s => s * Lk k) e1
 have f1 := congrArg (fun s => s * T k) h
 have q1 := congrArg (fun s => X * s) (Lk_eq hk)
 simp only [add_mul', zero_mul', mul_add'] at p1 l1 f1 q1
 rw [mul_add']
 refine ext fun j => ?_
 have a := congrArg (fun s => at' s j) d1
 have b := congrArg (fun s => at' s j) p1
 have c := congrArg (fun s => at' s j) l1
 have d := congrArg (fun s => at' s j) f1
 have e := congrArg (fun s => at' s j) q1
 have g := congrArg (fun s => at' s j) h
 have r1 : X * Q * T k = X * T k * Q := by ac_rfl
 have r2 : X * (Lk k * T k) = X * T k * Lk k := by ac_rfl
 rw [r1] at d
 rw [r2] at e
 have z : (C 0).at' j = 0 := by cases j <;> rfl
 simp only [add_at] at a b c d e g ⊢
 omega
def facs (k : Nat) : Nat → Ser → Ser
 | 0, X => X
 | c + 1, X => facs k c (fac k X)
theorem ydd {k : Nat} (hk : 1 ≤ k) : ∀ (c : Nat) {X Q : Ser}, D X + X * Q = C 0 → D (facs k c X) + facs k c X * (Q + C (c : Int) * Lk k) = C 0
 | 0, X, Q, h => by
  show D X + X * (Q + C 0 * Lk k) = C 0
  rw [zero_mul', add_zero']
  exact h
 | c + 1, X, Q, h => by
  have := ydd hk c (yne hk h)
  rw [add_assoc'] at this
  have e : C ((c + 1 : Nat) : Int) * Lk k = Lk k + C (c : Int) * Lk k := ext fun j => by
   rw [add_at, C_mul_at, C_mul_at, show ((c + 1 : Nat) : Int) = (c : Int) + 1 by omega, Int.add_mul]; omega
  rw [e]
  exact this
def eu (c : Nat → Nat) : Nat → Ser
 | 0 => C 1
 | m + 1 => facs (m + 1) (c (m + 1)) (eu c m)
def euP (c : Nat → Nat) : Nat → Ser
 | 0 => C 0
 | m + 1 => euP c m + C (c (m + 1) : Int) * Lk (m + 1)
theorem yde (c : Nat → Nat) : ∀ m, D (eu c m) + eu c m * euP c m = C 0
 | 0 => by
  show D (C 1) + C 1 * C 0 = C 0
  rw [D_C, one_mul', add_zero']
 | m + 1 => ydd (by omega) _ (yde c m)
theorem yee {k : Nat} (hk : 1 ≤ k) : ∀ c X, (facs k c X).at' 0 = X.at' 0
 | 0, X => rfl
 | c + 1, X => by
  show (facs k c (fac k X)).at' 0 = _
  rw [yee hk c, fac_at, if_neg (by omega)]; omega
theorem eu_zero (c : Nat → Nat) : ∀ m, (eu c m).at' 0 = 1
 | 0 => rfl
 | m + 1 => by
  show (facs (m + 1) (c (m + 1)) (eu c m)).at' 0 = 1
  rw [yee (by omega), eu_zero c m]
theorem euP_at (c : Nat → Nat) {j : Nat} (hj : 1 ≤ j) : ∀ m, (euP c m).at' j = sm (m + 1) fun d => if j % d = 0 then (d : Int) * (c d : Int) else 0
 | 0 => by
  rw [sm_succ, sm_zero, Nat.mod_zero, if_neg (by omega)]
  show (C 0).at' j = 0 + 0
  cases j <;> rfl
 | m + 1 => by
  rw [sm_succ, ← euP_at c hj m]
  show (euP c m + C (c (m + 1) : Int) * Lk (m + 1)).at' j = _
  rw [add_at, C_mul_at]
  congr 1
  show (c (m + 1) : Int) * (if 1 ≤ j ∧ j % (m + 1) = 0 then ((m + 1 : Nat) : Int) else 0) = _
  by_cases h : j % (m + 1) = 0
  ·rw [if_pos ⟨hj, h⟩, if_pos h, Int.mul_comm]
  ·rw [if_neg (fun hh => h hh.2), if_neg h, Int.mul_zero]
theorem euP_zero (c : Nat → Nat) : ∀ m, (euP c m).at' 0 = 0
 | 0 => rfl
 | m + 1 => by
  show (euP c m + C (c (m + 1) : Int) * Lk (m + 1)).at' 0 = 0
  rw [add_at, euP_zero c m, C_mul_at]
  show 0 + (c (m + 1) : Int) * 0 = 0
  simp
theorem eu_sum (c : Nat → Nat) (m k : Nat) : (k : Int) * (eu c m).at' k + sm k (fun j => (eu c m).at' j * (euP c m).at' (k - j)) = 0 := by
 have h := congrArg (fun s => at' s k) (yde c m)
 have z : (C 0).at' k = 0 := by cases k <;> rfl
 simp only [add_at, D_at] at h
 rw [z, mul_sm, sm_succ, Nat.sub_self, euP_zero, Int.mul_zero, Int.add_zero] at h
 exact h
theorem eu_ec {c : Nat → Nat} {m : Nat} (h : ∀ j, 1 ≤ j → j ≤ m → (euP c m).at' j = cw n A j) : ∀ k, k ≤ m → (eu c m).at' k = ec n A k := by
 intro k
 induction k using Nat.strongRecOn with
 | _ k ih =>
  intro hk
  by_cases h0 : k = 0
  ·subst h0; rw [eu_zero, ec_zero]
  ·have a := eu_sum c m k
   have b := yce (n := n) (A := A) k
   rw [sm_ext (g := fun j => ec n A j * cw n A (k - j)) fun j hj => by rw [ih j hj (by omega), h (k - j) (by omega) (by omega)]] at a
   have : (k : Int) * (eu c m).at' k = (k : Int) * ec n A k := by omega
   exact Int.eq_of_mul_eq_mul_left (by omega) this
end
end Ser
end Go.PV

/-
 Plain laws: numbers of cycles on the reference's side; the laws.
 Conditions: none.
-/
set_option linter.all false
namespace Go.PV
def zc (n : Nat) (G : Nat → Nat → Int) (m : Nat) : Int := if 1000000000 < cw n G m then -1 else Int.tdiv (cyN (cw n G) m) (m : Int)
def zS (n : Nat) (G : Nat → Nat → Int) (m i : Nat) : Int × Int := (cw n G m - sm (i + 1) (fun e => if m % e = 0 then cyN (cw n G) e else 0), ((i + 1 : Nat) : Int))
section
variable {n : Nat} {G : Nat → Nat → Int} (hn : n ≤ 8) (hG : ∀ i j, i < n → j < n → 0 ≤ G i j ∧ G i j ≤ 9)
include hn hG
theorem z_0 {m : Nat} (h1 : 1 ≤ m) : zS n G m 0 = (cw n G m, 1) := by
 have : ¬ (m % 0 = 0) := by rw [Nat.mod_zero]; omega
 unfold zS
 rw [sm_succ, if_neg this, sm_zero]
 simp
end
end Go.PV

/-
 Plain laws: numbers of cycles are not negative.
 Conditions: none.
-/
set_option linter.all false
namespace Go.PV
section
variable {n : Nat} {A : Nat → Nat → Int} (hA : ∀ i j, i < n → j < n → 0 ≤ A i j)
include hA
theorem pw_step (d : Nat) {i j l : Nat} (hi : i < n) (hj : j < n) (hl : l < n) : pw n A d i l * A l j ≤ pw n A (d + 1) i j :=
 sm_one hl (f := fun l => pw n A d i l * A l j) fun k hk => Int.mul_nonneg (yia hA d hi hk) (hA k j hk hj)
theorem pw_odd {i j : Nat} (hi : i < n) (hj : j < n) (h : 1 ≤ A i j) (h' : 1 ≤ A j i) : ∀ k, A i j ≤ pw n A (2 * k + 1) i j
 | 0 => by rw [show 2 * 0 + 1 = 1 from rfl, pw_one hi]; exact Int.le_refl _
 | k + 1 => by
  have ih := pw_odd hi hj h h' k
  have s1 := pw_step hA (2 * k + 1) hi hi hj
  have s2 := pw_step hA (2 * k + 1 + 1) hi hj hi
  have m1 := Int.mul_le_mul (show (1 : Int) ≤ pw n A (2 * k + 1) i j by omega) h' (by omega) (by omega)
  have m2 := Int.mul_le_mul_of_nonneg_right (show (1 : Int) ≤ pw n A (2 * k + 1 + 1) i i by omega) (show 0 ≤ A i j by omega)
  have e : 2 * (k + 1) + 1 = 2 * k + 1 + 1 + 1 := by omega
  rw [e]
  omega
theorem pw_diag {i : Nat} (hi : i < n) : ∀ k, 1 ≤ k → A i i ≤ pw n A k i i := by
 intro k
 induction k with
 | zero => intro h; omega
 | succ k ih =>
  intro _
  by_cases h0 : k = 0
  ·subst h0; rw [Nat.zero_add, pw_one hi]; exact Int.le_refl _
  ·have h1 := ih (by omega)
   have h2 := pw_step hA k hi hi hi
   have h3 := hA i i hi hi
   by_cases h4 : A i i = 0
   ·rw [h4]; exact yia hA _ hi hi
   ·have h5 := Int.mul_le_mul h1 (show (1 : Int) ≤ A i i by omega) (by omega) (by omega)
    omega
theorem cw_odd (k : Nat) : cw n A 2 - tr n A ≤ cw n A ((2 * k + 1) * 2) - cw n A (2 * k + 1) := by
 rw [cw_mul, cw2, cw2, show cw n A (2 * k + 1) = tr n (pw n A (2 * k + 1)) from rfl]
 have d : ∀ B : Nat → Nat → Int, S2 n (fun i j => B i j * B j i) - tr n B = S2 n fun i j => B i j * B j i - if j = i then B i i else 0 := fun B => by
  unfold S2 tr
  rw [← sm_sub]
  refine sm_ext fun i hi => ?_
  rw [sm_sub, sm_delta hi fun _ => B i i]
 rw [d, d]
 refine sm_le fun i hi => sm_le fun j hj => ?_
 have p1 := yia hA (2 * k + 1) hi hj
 have p2 := yia hA (2 * k + 1) hj hi
 have a1 := hA i j hi hj
 have a2 := hA j i hj hi
 by_cases h : j = i
 ·subst h
  simp only [if_true]
  have h1 := pw_diag hA hj (2 * k + 1) (by omega)
  by_cases h0 : A j j = 0
  ·rw [h0]
   by_cases h3 : pw n A (2 * k + 1) j j = 0
   ·rw [h3]; decide
   ·have := Int.mul_le_mul_of_nonneg_left (show (1 : Int) ≤ pw n A (2 * k + 1) j j by omega) p1
    omega
  ·have m1 := Int.mul_le_mul_of_nonneg_left h1 (show 0 ≤ A j j - 1 by omega)
   have m2 := Int.mul_le_mul_of_nonneg_right (show A j j - 1 ≤ pw n A (2 * k + 1) j j - 1 by omega) p1
   grind
 ·simp only [if_neg h]
  by_cases h0 : A i j = 0 ∨ A j i = 0
  ·have : A i j * A j i = 0 := by rcases h0 with h0 | h0 <;> rw [h0] <;> simp
   rw [this]
   have := Int.mul_nonneg p1 p2
   omega
  ·have b1 := pw_odd hA hi hj (by omega) (by omega) k
   have b2 := pw_odd hA hj hi (by omega) (by omega) k
   have := Int.mul_le_mul b1 b2 a2 p1
   omega
theorem ytb {m : Nat} (h1 : 1 ≤ m) (h2 : m ≤ 12) : 0 ≤ cyN (cw n A) m := by
 have hB : ∀ i j, i < n → j < n → 0 ≤ pw n A 2 i j := fun i j hi hj => yia hA 2 hi hj
 have o3 := cw_odd hA 1
 have o5 := cw_odd hA 2
 have o6 := cw_odd hB 1
 rw [← cw_mul 2 2, ← cw_mul 2 ((2 * 1 + 1) * 2), ← cw_mul 2 (2 * 1 + 1), show tr n (pw n A 2) = cw n A 2 from rfl] at o6
 rw [← cw_one] at o3 o5
 have dv : ∀ d m : Nat, m % d = 0 → 1 ≤ m → cw n A d ≤ cw n A m := fun d m h hm => cw_dvd hA (Nat.dvd_of_mod_eq_zero h) hm
 have n1 : 0 ≤ cw n A 1 := yfc fun i hi => yia hA 1 hi hi
 have d2 := dv 1 2 rfl (by omega)
 have d3 := dv 1 3 rfl (by omega)
 have d4 := dv 2 4 rfl (by omega)
 have d5 := dv 1 5 rfl (by omega)
 have d7 := dv 1 7 rfl (by omega)
 have d8 := dv 4 8 rfl (by omega)
 have d9 := dv 3 9 rfl (by omega)
 have d11 := dv 1 11 rfl (by omega)
 have : m = 1 ∨ m = 2 ∨ m = 3 ∨ m = 4 ∨ m = 5 ∨ m = 6 ∨ m = 7 ∨ m = 8 ∨ m = 9 ∨ m = 10 ∨ m = 11 ∨ m = 12 := by omega
 rcases this with rfl | rfl | rfl | rfl | rfl | rfl | rfl | rfl | rfl | rfl | rfl | rfl <;> (simp [cyN, sm_succ, sm_zero, mu] at * <;> omega)
end
end Go.PV

/-
 Plain laws: tables of numbers of cycles.
 Conditions: none.
-/
set_option linter.all false
namespace Go.PV
section
variable {n : Nat} {G : Nat → Nat → Int} (hn : n ≤ 8) (hG : ∀ i j, i < n → j < n → 0 ≤ G i j ∧ G i j ≤ 9)
include hn hG
def zT (n : Nat) (G : Nat → Nat → Int) (i : Nat) : Int := Int.tdiv (cyN (cw n G) (i + 1)) ((i + 1 : Nat) : Int)
end
end Go.PV

/-
 Plain laws: the coefficients of a characteristic polynomial, without words.
 Conditions: none.
-/
set_option linter.all false
namespace Go.PV
def mmN (n : Nat) (A M : Nat → Nat → Int) (i j : Nat) : Int := sm n fun l => A i l * M l j
def addI (M : Nat → Nat → Int) (c : Int) (i j : Nat) : Int := M i j + if i = j then c else 0
def faM (n : Nat) (A : Nat → Nat → Int) : Nat → Int × (Nat → Nat → Int)
 | 0 => (1, fun _ _ => 0)
 | k + 1 => (Int.tdiv (0 - tr n (mmN n A (addI (faM n A k).2 (faM n A k).1))) ((k + 1 : Nat) : Int), mmN n A (addI (faM n A k).2 (faM n A k).1))
def btk : Nat → Nat
 | 0 => 0
 | 1 => 9
 | k + 2 => 72 * (btk (k + 1) + 8 * btk (k + 1) / (k + 1))
section
variable {n : Nat} {A : Nat → Nat → Int}
end
end Go.PV

/-
 Plain laws: the characteristic polynomial of a companion table, and of a table without closed walks.
 Conditions: none.
-/
set_option linter.all false
namespace Go.PV
def cmpM (n : Nat) (p : Nat → Int) (i j : Nat) : Int := if i + 1 < n then (if j = i + 1 then 1 else 0) else -p j
def hcM (n : Nat) (p : Nat → Int) (k i j : Nat) : Int :=
 if i + k < n then (if i ≤ j ∧ j ≤ i + k then p (n - k + (j - i)) else 0) else (if i + k - n ≤ j ∧ j < i then -p (n - k - (i - j)) else 0)
section
variable {n : Nat} {p : Nat → Int}
end
end Go.PV

/-
 Plain laws: which states are reached, and graphs without closed walks.
 Conditions: none.
-/
set_option linter.all false
namespace Go.PV
def wsh (R : Nat → Nat → Bool) (k i j : Nat) : Bool := R i j || (R i k && R k j)
def rch (n : Nat) (G : Nat → Nat → Int) : Nat → Nat → Nat → Bool
 | 0 => fun i j => decide (G i j > 0)
 | k + 1 => wsh (rch n G k) k
section
variable {n : Nat} {G : Nat → Nat → Int}
variable (hG : ∀ i j, i < n → j < n → 0 ≤ G i j)
include hG
def hgt (n : Nat) (R : Nat → Nat → Bool) (i : Nat) : Int := sm n fun m => if R i m = true then 1 else 0
omit hG in
end
def noLoop (n : Nat) (G : Nat → Nat → Int) : Bool := (tab n fun i => rch n G n i i).all (!·)
end Go.PV

/-
 Plain laws: what draws fractions and vectors always comes to an end.
 Conditions: none.
-/
set_option linter.all false
namespace Go.PV
end Go.PV

/-
 Plain laws: power sums, Euler products, companion graphs.
 Conditions: none.
-/
set_option linter.all false
namespace Go.PV
theorem w64_per (x k : Int) : w64 (x + 18446744073709551616 * k) = w64 x := by
 unfold w64 IntKind.wrap
 have e : (2 ^ IntKind.bits .i64 : Int) = 18446744073709551616 := by decide
 simp only [e, Int.add_mul_emod_self_left]
theorem w64_cong (x : Int) : ∃ k, w64 x = x + 18446744073709551616 * k := by
 unfold w64 IntKind.wrap
 have e : (2 ^ IntKind.bits .i64 : Int) = 18446744073709551616 := by decide
 simp only [e]
 split
 ·exact ⟨-(x / 18446744073709551616) - 1, by have := Int.mul_ediv_add_emod x 18446744073709551616; omega⟩
 ·exact ⟨-(x / 18446744073709551616), by have := Int.mul_ediv_add_emod x 18446744073709551616; omega⟩
theorem w64_add (a b : Int) : w64 (w64 a + b) = w64 (a + b) := by
 obtain ⟨k, e⟩ := w64_cong a
 rw [e, show a + 18446744073709551616 * k + b = a + b + 18446744073709551616 * k by omega, w64_per]
def isPol (p : List Int) : Bool := isPoly p && ((p.length : Int) == 0 || p.getLastD 0 != 0)
def isMon (p : List Int) : Bool := decide ((p.length : Int) > 0) && p.getLastD 0 == 1
def psAsk (p : List Int) (k : Int) : Bool := isPol p && (isMon p && (decide (2 ≤ (p.length : Int)) && inB 1 12 k))
def epAsk (a : List Int) : Bool := inB 1 8 a.length && a.all (inB 0 100)
end Go.PV

/-
 Plain laws: numbers of cycles divide; Euler products and power sums, and what they are.
 Conditions: none.
-/
set_option linter.all false
namespace Go.PV
open Ser
section
variable {n : Nat} {A : Nat → Nat → Int}
def cN (n : Nat) (A : Nat → Nat → Int) (d : Nat) : Nat := (Int.tdiv (cyN (cw n A) d) (d : Int)).toNat
theorem euP_cw {m j : Nat} (hG : ∀ d, 1 ≤ d → d ≤ m → (d : Int) * (cN n A d : Int) = cyN (cw n A) d) (h1 : 1 ≤ j) (h2 : j ≤ 12) : (j ≤ m → (euP (cN n A) m).at' j = cw n A j) ∧ (j = m + 1 → (euP (cN n A) m).at' j = cw n A j - cyN (cw n A) j) := by
 have hinv := cy_inv (cw n A) h1 h2
 have hsum : ∀ q, q ≤ m + 1 → (sm q fun d => if j % d = 0 then (d : Int) * (cN n A d : Int) else 0) = sm q fun e => if j % e = 0 then cyN (cw n A) e else 0 := fun q hq => sm_ext fun d hd => by
  by_cases h0 : d = 0
  ·subst h0
   rw [Nat.mod_zero, if_neg (by omega), if_neg (by omega)]
  ·split
   ·exact hG d (by omega) (by omega)
   ·rfl
 refine ⟨fun hjm => ?_, fun hjm => ?_⟩
 ·rw [euP_at _ h1, hsum (m + 1) (Nat.le_refl _)]
  have : ∀ q, (sm (j + 1 + q) fun e => if j % e = 0 then cyN (cw n A) e else 0) = sm (j + 1) fun e => if j % e = 0 then cyN (cw n A) e else 0 := by
   intro q
   induction q with
   | zero => rfl
   | succ q ih =>
    rw [← Nat.add_assoc, sm_succ, ih, Nat.mod_eq_of_lt (show j < j + 1 + q by omega), if_neg (by omega)]
    omega
  have e : m + 1 = j + 1 + (m - j) := by omega
  rw [e, this, sm_succ, Nat.mod_self, if_pos rfl]
  exact hinv
 ·rw [euP_at _ h1, hsum (m + 1) (Nat.le_refl _), ← hjm]
  omega
theorem cyc_all (hA : ∀ i j, i < n → j < n → 0 ≤ A i j) : ∀ m : Nat, m ≤ 12 → ∀ d : Nat, 1 ≤ d → d ≤ m → (d : Int) * (cN n A d : Int) = cyN (cw n A) d
 | 0, _, d, h1, h2 => by omega
 | m + 1, hm, d, h1, h2 => by
  have ih := cyc_all hA m (by omega)
  by_cases hd : d ≤ m
  ·exact ih d h1 hd
  ·obtain rfl : d = m + 1 := by omega
   have a := eu_sum (cN n A) m (m + 1)
   have b := yce (n := n) (A := A) (m + 1)
   have hag : ∀ k, k ≤ m → (eu (cN n A) m).at' k = ec n A k := eu_ec fun j j1 j2 => (euP_cw ih j1 (by omega)).1 j2
   rw [sm_front] at a b
   rw [sm_ext (g := fun j => ec n A (j + 1) * cw n A (m + 1 - (j + 1))) fun j hj => by rw [hag (j + 1) (by omega), (euP_cw ih (show 1 ≤ m + 1 - (j + 1) by omega) (by omega)).1 (by omega)], eu_zero, Nat.sub_zero, (euP_cw ih (show 1 ≤ m + 1 by omega) hm).2 rfl] at a
   rw [ec_zero, Nat.sub_zero] at b
   have hdv : ((m + 1 : Nat) : Int) ∣ cyN (cw n A) (m + 1) := ⟨(eu (cN n A) m).at' (m + 1) - ec n A (m + 1), by rw [Int.mul_sub]; omega⟩
   have h0 := ytb hA h1 hm
   unfold cN
   rw [Int.toNat_of_nonneg (Int.tdiv_nonneg h0 (by omega)), Int.mul_tdiv_cancel' hdv]
end
theorem w64_mul (a b : Int) : w64 (a * w64 b) = w64 (a * b) := by
 obtain ⟨k, e⟩ := w64_cong b
 rw [e, Int.mul_add, show a * (18446744073709551616 * k) = 18446744073709551616 * (a * k) by rw [Int.mul_left_comm], w64_per]
section
variable {m : Nat} (hm : m ≤ 8)
include hm
end
end Go.PV

/-
 Plain laws: numbers of loops of a graph with at most one arrow from a state to another, on both sides.
 Conditions: none.
-/
set_option linter.all false
namespace Go.PV
section
variable {n : Nat} {G : Nat → Nat → Int} (hn : n ≤ 8) (hG : ∀ i j, i < n → j < n → 0 ≤ G i j ∧ G i j ≤ 1)
include hn hG
theorem g9 : ∀ i j, i < n → j < n → 0 ≤ G i j ∧ G i j ≤ 9 := fun i j hi hj => by have := hG i j hi hj; omega
theorem gp : ∀ i j, i < n → j < n → 0 ≤ G i j := fun i j hi hj => (hG i j hi hj).1
theorem sm_bd {f : Nat → Int} {B : Int} (m : Nat) (h : ∀ i, i < m → f i ≤ B) : sm m f ≤ B * m := by
 induction m with
 | zero => simp [sm_zero]
 | succ m ih =>
  rw [sm_succ]
  have h1 := ih fun i hi => h i (by omega)
  have h2 := h m (by omega)
  have e : B * ((m + 1 : Nat) : Int) = B * (m : Int) + B := by rw [show ((m + 1 : Nat) : Int) = (m : Int) + 1 by omega, Int.mul_add, Int.mul_one]
  omega
theorem pw_bd : ∀ (d : Nat) {i j : Nat}, i < n → j < n → pw n G d i j ≤ ((8 ^ d : Nat) : Int)
 | 0, i, j, _, _ => by
  simp only [pw]
  split <;> simp
 | d + 1, i, j, hi, hj => by
  show sm n (fun k => pw n G d i k * G k j) ≤ _
  have h1 := sm_bd hn hG (f := fun k => pw n G d i k * G k j) (B := ((8 ^ d : Nat) : Int)) n fun k hk => by
   have a := pw_bd d hi hk
   have b := yia (gp hn hG) d hi hk
   have c := hG k j hk hj
   have := Int.mul_le_mul_of_nonneg_left c.2 b
   omega
  have h2 : ((8 ^ d : Nat) : Int) * (n : Int) ≤ ((8 ^ d : Nat) : Int) * 8 := Int.mul_le_mul_of_nonneg_left (by omega) (Int.natCast_nonneg _)
  have e : ((8 ^ (d + 1) : Nat) : Int) = ((8 ^ d : Nat) : Int) * 8 := by rw [Nat.pow_succ]; exact Int.natCast_mul ..
  omega
theorem cw_bd (d : Nat) : cw n G d ≤ ((8 ^ d : Nat) : Int) * 8 := by
 have h1 := sm_bd hn hG (f := fun i => pw n G d i i) n fun i hi => pw_bd hn hG d hi hi
 have h2 : ((8 ^ d : Nat) : Int) * (n : Int) ≤ ((8 ^ d : Nat) : Int) * 8 := Int.mul_le_mul_of_nonneg_left (by omega) (Int.natCast_nonneg _)
 have : cw n G d = sm n fun i => pw n G d i i := rfl
 omega
theorem p8 {d : Nat} (hd : d ≤ 12) : (8 ^ d : Nat) ≤ 68719476736 := Nat.le_trans (Nat.pow_le_pow_right (by omega) hd) (by decide)
theorem cwb {d : Nat} (hd : d ≤ 12) : 0 ≤ cw n G d ∧ cw n G d ≤ 549755813888 := by
 have h1 := cw_bd hn hG d
 have h2 := p8 hn hG hd
 have h3 := cw_ge hn (g9 hn hG) d
 omega
theorem powN_one : ∀ (d : Nat), d ≤ 12 → ∀ {i j : Nat}, i < n → j < n → powN n G 1000000000000000000 d i j = pw n G d i j
 | 0, _, i, j, _, _ => rfl
 | d + 1, hd, i, j, hi, hj => by
  have hA := gp hn hG
  show foldN n (fun acc k => capMul 1000000000000000000 acc (powN n G 1000000000000000000 d i k) (G k j)) 0 = sm n fun k => pw n G d i k * G k j
  have : ∀ m, m ≤ n → foldN m (fun acc k => capMul 1000000000000000000 acc (powN n G 1000000000000000000 d i k) (G k j)) 0 = sm m (fun k => pw n G d i k * G k j) ∧ 0 ≤ sm m (fun k => pw n G d i k * G k j) ∧ sm m (fun k => pw n G d i k * G k j) ≤ 68719476736 * m := by
   intro m
   induction m with
   | zero => intro _; exact ⟨rfl, by simp [sm_zero], by simp [sm_zero]⟩
   | succ m ih =>
    intro hm
    obtain ⟨e, b0, b1⟩ := ih (by omega)
    have a1 := pw_bd hn hG d hi (show m < n by omega)
    have a0 := yia hA d hi (show m < n by omega)
    have c := hG m j (by omega) hj
    have h8 := p8 hn hG (show d ≤ 12 by omega)
    have m0 := Int.mul_nonneg a0 c.1
    have m1 := Int.mul_le_mul_of_nonneg_left c.2 a0
    rw [yab, e, sm_succ, powN_one d (by omega) hi (show m < n by omega)]
    unfold capMul
    rw [w64_id (n := pw n G d i m * G m j) (by omega) (by omega), w64_id (by omega) (by omega), if_neg (by omega)]
    exact ⟨rfl, by omega, by omega⟩
  exact (this n (Nat.le_refl n)).1
def lcN (n : Nat) (G : Nat → Nat → Int) (m : Nat) : Int := Int.tdiv (cyN (cw n G) m) (m : Int)
theorem cyb {m : Nat} (h1 : 1 ≤ m) (hm : m ≤ 12) : 0 ≤ cyN (cw n G) m ∧ cyN (cw n G) m ≤ 549755813888 := by
 have h0 := ytb (gp hn hG) h1 hm
 have h2 := cy_inv (cw n G) h1 hm
 have h3 := (cwb hn hG hm).2
 have h4 : 0 ≤ sm m (fun e => if m % e = 0 then cyN (cw n G) e else 0) := yfc fun e he => by
  split
  ·rename_i hd
   by_cases h0 : e = 0
   ·subst h0; rw [Nat.mod_zero] at hd; omega
   ·exact ytb (gp hn hG) (by omega) (by omega)
  ·omega
 omega
theorem lc_mul {e : Nat} (h1 : 1 ≤ e) (he : e ≤ 12) : (e : Int) * lcN n G e = cyN (cw n G) e := by
 have := cyc_all (gp hn hG) 12 (Nat.le_refl _) e h1 he
 unfold cN at this
 rw [Int.toNat_of_nonneg (Int.tdiv_nonneg (ytb (gp hn hG) h1 he) (by omega))] at this
 exact this
theorem yje {m d : Nat} (h1 : 1 ≤ d) (hm : m ≤ 12) (hd : d ≤ m) (X : Int) (s : Int) : loopO (impl_loopCount_b2 (m : Int) (X, (d : Int)) (mat n n (pw n G d))) (w64 s, 0) = some (w64 (s + mu (m / d) * cw n G d)) := by
 have hdd := Nat.div_pos (show d ≤ m by omega) (show 0 < d by omega)
 have hdl := Nat.div_le_self m d
 have hx := loop_idx (body := impl_loopCount_b2 (m : Int) (X, (d : Int)) (mat n n (pw n G d))) n (fun i => (w64 (s + mu (m / d) * sm i fun i => pw n G d i i), (i : Int))) (w64 (s + mu (m / d) * cw n G d)) (fun i hi => by
  have hdv : Int.tdiv (m : Int) (d : Int) = ((m / d : Nat) : Int) := rfl
  simp only [impl_loopCount_b2, mat_len, show ((i : Int) < (n : Int)) from by omega, decide_true, if_true, idxO_mat hi, Option.bind_some, hdv, w64_id (n := ((m / d : Nat) : Int)) (by omega) (by omega), yxc hdd (show m / d ≤ 12 by omega), idxO_tab hi, w64_nat (show i < 9223372036854775807 by omega), sm_succ]
  congr 3
  rw [w64_add, Int.add_comm, w64_add, Int.mul_add]
  congr 1
  omega) (by
  simp only [impl_loopCount_b2, mat_len, Int.lt_irrefl, decide_false, Bool.false_eq_true, if_false]
  rfl)
 rw [sm_zero, Int.mul_zero, Int.add_zero] at hx
 exact hx
theorem ydc {m : Nat} (h1 : 1 ≤ m) (hm : m ≤ 12) : impl_loopCount (mat n n G) (m : Int) = some (lcN n G m) := by
 have hx := loop_idx (body := impl_loopCount_b1 (mat n n G) (m : Int)) m (fun i => (w64 (sm (i + 1) fun e => if m % e = 0 then mu (m / e) * cw n G e else 0), ((i + 1 : Nat) : Int))) (w64 (cyN (cw n G) m)) (fun i hi => by
  have ht : Int.tmod (m : Int) ((i + 1 : Nat) : Int) = ((m % (i + 1) : Nat) : Int) := rfl
  have hp : mat n n (powN n G 1000000000000000000 (i + 1)) = mat n n (pw n G (i + 1)) := mat_ext fun a b ha hb => powN_one hn hG (i + 1) (by omega) ha hb
  simp only [impl_loopCount_b1, show (((i + 1 : Nat) : Int) ≤ (m : Int)) from by omega, decide_true, if_true]
  rw [guardO_bind_pos (by omega), ht, sm_succ (i + 1) (fun e => if m % e = 0 then mu (m / e) * cw n G e else 0)]
  by_cases hd : m % (i + 1) = 0
  ·have hb : (((m % (i + 1) : Nat) : Int) == 0) = true := by rw [hd]; rfl
   rw [if_pos hb, if_pos hd, yac hn (i + 1) (by omega), hp, Option.bind_some, yje hn hG (by omega) hm (by omega), Option.bind_some]
   simp only [impl_loopCount_k2, w64_nat (show i + 1 < 9223372036854775807 by omega)]
  ·have hb : (((m % (i + 1) : Nat) : Int) == 0) = false := by rw [beq_eq_false_iff_ne]; exact fun h => hd (by exact_mod_cast h)
   rw [hb, if_neg hd, Int.add_zero]
   simp only [Bool.false_eq_true, if_false, impl_loopCount_k2, w64_nat (show i + 1 < 9223372036854775807 by omega)]) (by
  simp only [impl_loopCount_b1, show ¬ (((m + 1 : Nat) : Int) ≤ (m : Int)) from by omega, decide_false, Bool.false_eq_true, if_false]
  rfl)
 have e0 : w64 (sm (0 + 1) fun e => if m % e = 0 then mu (m / e) * cw n G e else 0) = 0 := by
  rw [sm_succ, sm_zero, Nat.mod_zero, if_neg (by omega)]; rfl
 rw [e0] at hx
 have hx' : loopO (impl_loopCount_b1 (mat n n G) (m : Int)) (0, 1) = some (w64 (cyN (cw n G) m)) := hx
 have hb := cyb hn hG h1 hm
 have hab : (Int.tdiv (cyN (cw n G) m) (m : Int)).natAbs ≤ (cyN (cw n G) m).natAbs := by rw [Int.natAbs_tdiv]; exact Nat.div_le_self _ _
 unfold impl_loopCount
 rw [hx', Option.bind_some, w64_id (by omega) (by omega)]
 unfold impl_loopCount_k1
 rw [guardO_bind_pos (by omega), w64_id (by omega) (by omega)]
 rfl
theorem fo_row (d : Nat) {f : Nat} (hf : f < n) (X : List Int × Int) : loopO (spec_foClosed_b3 (mat n n G) (tab n (fun k => w64 (pw n G d f k)), X.2)) (tab n (fun _ => 0), 0) = some (tab n fun k => w64 (pw n G (d + 1) f k)) := by
 have inner : ∀ i, i < n → loopO (spec_foClosed_b4 (w64 (pw n G d f i)) (tab n (G i))) (tab n (fun k => w64 (sm i fun l => pw n G d f l * G l k)), 0) = some (tab n fun k => w64 (sm (i + 1) fun l => pw n G d f l * G l k)) := fun i hi => by
  have hx := loop_idx (body := spec_foClosed_b4 (w64 (pw n G d f i)) (tab n (G i))) n (fun j => (tab n (fun k => if k < j then w64 (sm (i + 1) fun l => pw n G d f l * G l k) else w64 (sm i fun l => pw n G d f l * G l k)), (j : Int))) (tab n fun k => w64 (sm (i + 1) fun l => pw n G d f l * G l k)) (fun j hj => by
   simp only [spec_foClosed_b4, tab_len, show ((j : Int) < (n : Int)) from by omega, decide_true, if_true, idxO_tab hj, Option.bind_some, Nat.lt_irrefl, if_false, Int.toNat_natCast, tab_set hj, w64_nat (show j < 9223372036854775807 by omega)]
   congr 3
   refine tab_ext fun k hk => ?_
   by_cases h : k = j
   ·subst h
    rw [if_pos rfl, if_pos (by omega), sm_succ i (fun l => pw n G d f l * G l k), w64_add, Int.mul_comm (w64 (pw n G d f i)), w64_mul, Int.add_comm, w64_add, Int.add_comm, Int.mul_comm (G i k)]
   ·rw [if_neg h]
    by_cases h2 : k < j
    ·rw [if_pos h2, if_pos (by omega)]
    ·rw [if_neg h2, if_neg (by omega)]) (by
   simp only [spec_foClosed_b4, tab_len, Int.lt_irrefl, decide_false, Bool.false_eq_true, if_false]
   congr 2
   exact tab_ext fun k hk => by rw [if_pos hk])
  simp only [Nat.not_lt_zero, if_false] at hx
  exact hx
 have hx := loop_idx (body := spec_foClosed_b3 (mat n n G) (tab n (fun k => w64 (pw n G d f k)), X.2)) n (fun i => (tab n (fun k => w64 (sm i fun l => pw n G d f l * G l k)), (i : Int))) (tab n fun k => w64 (pw n G (d + 1) f k)) (fun i hi => by
  simp only [spec_foClosed_b3, tab_len, show ((i : Int) < (n : Int)) from by omega, decide_true, if_true, idxO_tab hi, idxO_mat hi, Option.bind_some, inner i hi, spec_foClosed_k6, w64_nat (show i < 9223372036854775807 by omega)]) (by
  simp only [spec_foClosed_b3, tab_len, Int.lt_irrefl, decide_false, Bool.false_eq_true, if_false]
  rfl)
 exact hx
theorem ydb {m : Nat} (hm : m ≤ 12) : spec_foClosed (mat n n G) (m : Int) = some (cw n G m) := by
 have hx := loop_idx (body := spec_foClosed_b1 (mat n n G) (m : Int)) n (fun i => (w64 (sm i fun i => pw n G m i i), (i : Int))) (w64 (cw n G m)) (fun f hf => by
  have steps := loop_idx (body := spec_foClosed_b2 (mat n n G) (m : Int)) m (fun d => (tab n (fun k => w64 (pw n G d f k)), (d : Int))) (tab n fun k => w64 (pw n G m f k)) (fun d hd => by
   simp only [spec_foClosed_b2, mat_len, show ((d : Int) < (m : Int)) from by omega, decide_true, if_true, Int.toNat_natCast, rep_tab, fo_row hn hG d hf (tab n (fun k => w64 (pw n G d f k)), (d : Int)), Option.bind_some, spec_foClosed_k5, spec_foClosed_k4, w64_nat (show d < 9223372036854775807 by omega)]) (by
   simp only [spec_foClosed_b2, Int.lt_irrefl, decide_false, Bool.false_eq_true, if_false])
  have e0 : (tab n (fun _ => (0 : Int))).set f 1 = tab n fun k => w64 (pw n G 0 f k) := by
   rw [tab_set hf]
   refine tab_ext fun k _ => ?_
   simp only [pw]
   by_cases h : k = f
   ·subst h; simp; rfl
   ·rw [if_neg h, if_neg (Ne.symm h)]; rfl
  have steps' : loopO (spec_foClosed_b2 (mat n n G) (m : Int)) (tab n (fun k => w64 (pw n G 0 f k)), 0) = some (tab n fun k => w64 (pw n G m f k)) := steps
  simp only [spec_foClosed_b1, mat_len, show ((f : Int) < (n : Int)) from by omega, decide_true, if_true]
  rw [guardO_bind_pos (by omega), Int.toNat_natCast, rep_tab, idxO_tab hf, Option.bind_some, Int.toNat_natCast, e0, steps', Option.bind_some]
  simp only [spec_foClosed_k3, idxO_tab hf, Option.bind_some, spec_foClosed_k2, w64_nat (show f < 9223372036854775807 by omega), sm_succ]
  congr 3
  rw [w64_add, Int.add_comm, w64_add, Int.add_comm]) (by
  simp only [spec_foClosed_b1, mat_len, Int.lt_irrefl, decide_false, Bool.false_eq_true, if_false]
  rfl)
 have hx' : loopO (spec_foClosed_b1 (mat n n G) (m : Int)) (0, 0) = some (w64 (cw n G m)) := hx
 have hb := cwb hn hG hm
 unfold spec_foClosed
 rw [hx', Option.bind_some, w64_id (by omega) (by omega)]
 rfl
theorem cs_bd {m : Nat} (h1 : 1 ≤ m) (hm : m ≤ 12) : ∀ k, k ≤ m → 0 ≤ (sm k fun e => if m % e = 0 then cyN (cw n G) e else 0) ∧ (sm k fun e => if m % e = 0 then cyN (cw n G) e else 0) ≤ 549755813888 * (k : Int)
 | 0, _ => by simp [sm_zero]
 | k + 1, h => by
  have ih := cs_bd h1 hm k (by omega)
  rw [sm_succ]
  have : 0 ≤ (if m % k = 0 then cyN (cw n G) k else 0) ∧ (if m % k = 0 then cyN (cw n G) k else 0) ≤ 549755813888 := by
   split
   ·rename_i hd
    by_cases hk : k = 0
    ·subst hk; rw [Nat.mod_zero] at hd; omega
    ·exact cyb hn hG (by omega) (by omega)
   ·omega
  omega
theorem fo_step {rc : List (List Int) → Int → Option Int} {m i : Nat} (h1 : 1 ≤ m) (h2 : m ≤ 12) (hi : i + 1 < m) (hr : m % (i + 1) = 0 → rc (mat n n G) ((i + 1 : Nat) : Int) = some (lcN n G (i + 1))) :
  spec_foLoops_r_b1 rc (mat n n G) (m : Int) (zS n G m i) = some (.inl (zS n G m (i + 1))) := by
 have ht : Int.tmod (m : Int) ((i + 1 : Nat) : Int) = ((m % (i + 1) : Nat) : Int) := rfl
 have b1 := cs_bd hn hG h1 h2 (i + 1) (by omega)
 have b2 := cs_bd hn hG h1 h2 (i + 1 + 1) (by omega)
 have g0 := cwb hn hG h2
 unfold zS
 simp only [spec_foLoops_r_b1, show (((i + 1 : Nat) : Int) < (m : Int)) from by omega, decide_true, if_true]
 rw [guardO_bind_pos (by omega), ht]
 by_cases hd : m % (i + 1) = 0
 ·have hb : (((m % (i + 1) : Nat) : Int) == 0) = true := by rw [hd]; rfl
  have hz := lc_mul hn hG (show 1 ≤ i + 1 by omega) (show i + 1 ≤ 12 by omega)
  have hc := cyb hn hG (show 1 ≤ i + 1 by omega) (show i + 1 ≤ 12 by omega)
  rw [if_pos hb, hr hd, Option.bind_some, hz]
  rw [sm_succ (i + 1) (fun e => if m % e = 0 then cyN (cw n G) e else 0), if_pos hd] at b2 ⊢
  rw [w64_id (n := cyN (cw n G) (i + 1)) (by omega) (by omega), w64_id (by omega) (by omega), w64_nat (show i + 1 < 9223372036854775807 by omega)]
  congr 3
  omega
 ·have hb : (((m % (i + 1) : Nat) : Int) == 0) = false := by rw [beq_eq_false_iff_ne]; exact fun h => hd (by exact_mod_cast h)
  rw [hb]
  simp only [Bool.false_eq_true, if_false]
  rw [sm_succ (i + 1) (fun e => if m % e = 0 then cyN (cw n G) e else 0), if_neg hd, w64_nat (show i + 1 < 9223372036854775807 by omega), Int.add_zero]
theorem fo_end {rc : List (List Int) → Int → Option Int} {m i : Nat} (h1 : 1 ≤ m) (h2 : m ≤ 12) (hi : i + 1 = m) : spec_foLoops_r_b1 rc (mat n n G) (m : Int) (zS n G m i) = some (.inr (cyN (cw n G) m)) := by
 have := cy_inv (cw n G) h1 h2
 unfold zS
 rw [hi]
 simp only [spec_foLoops_r_b1, Int.lt_irrefl, decide_false, Bool.false_eq_true, if_false]
 congr 2
 omega
theorem fo_fin {m : Nat} (h1 : 1 ≤ m) (h2 : m ≤ 12) : spec_foLoops_r_k1 (m : Int) (cyN (cw n G) m) = some (lcN n G m) := by
 have b := cyb hn hG h1 h2
 have hab : (Int.tdiv (cyN (cw n G) m) (m : Int)).natAbs ≤ (cyN (cw n G) m).natAbs := by rw [Int.natAbs_tdiv]; exact Nat.div_le_self _ _
 unfold spec_foLoops_r_k1 lcN
 rw [guardO_bind_pos (by omega), w64_id (by omega) (by omega)]
theorem fo_all {rc : List (List Int) → Int → Option Int} {m : Nat} (h1 : 1 ≤ m) (h2 : m ≤ 12) (hr : ∀ e, 1 ≤ e → e < m → rc (mat n n G) (e : Int) = some (lcN n G e)) : spec_foLoops_r rc (mat n n G) (m : Int) = some (lcN n G m) := by
 unfold spec_foLoops_r
 rw [ydb hn hG h2, Option.bind_some]
 have hx := loop_idx (body := spec_foLoops_r_b1 rc (mat n n G) (m : Int)) (m - 1) (zS n G m) (cyN (cw n G) m) (fun i hi => fo_step hn hG h1 h2 (by omega) fun _ => hr (i + 1) (by omega) (by omega)) (fo_end hn hG h1 h2 (by omega))
 rw [z_0 hn (g9 hn hG) h1] at hx
 rw [hx, Option.bind_some, fo_fin hn hG h1 h2]
theorem fo_some {rc : List (List Int) → Int → Option Int} {m : Nat} (h1 : 1 ≤ m) (h2 : m ≤ 12) (hr : ∀ e r, 1 ≤ e → e < m → rc (mat n n G) (e : Int) = some r → r = lcN n G e) {r : Int} (h : spec_foLoops_r rc (mat n n G) (m : Int) = some r) : r = lcN n G m := by
 unfold spec_foLoops_r at h
 rw [ydb hn hG h2, Option.bind_some, ← z_0 hn (g9 hn hG) h1] at h
 obtain ⟨y, e1, h⟩ := Option.bind_eq_some_iff.1 h
 have := loop_inv (fun s => ∃ i, i + 1 ≤ m ∧ s = zS n G m i) (fun y => y = cyN (cw n G) m) (fun s o ⟨i, hi, e2⟩ hb => by
  subst e2
  by_cases hlt : i + 1 < m
  ·have key : (m % (i + 1) = 0 → rc (mat n n G) ((i + 1 : Nat) : Int) = some (lcN n G (i + 1))) → o = .inl (zS n G m (i + 1)) := fun h3 => by
    rw [fo_step hn hG h1 h2 hlt h3] at hb
    exact (Option.some.inj hb).symm
   have : o = .inl (zS n G m (i + 1)) := by
    cases hv : rc (mat n n G) ((i + 1 : Nat) : Int) with
    | some v =>
     have := hr (i + 1) v (by omega) hlt hv
     exact key fun _ => by rw [hv, this]
    | none =>
     by_cases hd : m % (i + 1) = 0
     ·exfalso
      have ht : Int.tmod (m : Int) ((i + 1 : Nat) : Int) = ((m % (i + 1) : Nat) : Int) := rfl
      have hbb : (((m % (i + 1) : Nat) : Int) == 0) = true := by rw [hd]; rfl
      unfold zS at hb
      simp only [spec_foLoops_r_b1, show (((i + 1 : Nat) : Int) < (m : Int)) from by omega, decide_true, if_true] at hb
      rw [guardO_bind_pos (by omega), ht, if_pos hbb, hv] at hb
      cases hb
     ·exact key fun h => absurd h hd
   subst this
   exact ⟨i + 1, by omega, rfl⟩
  ·rw [fo_end hn hG h1 h2 (by omega)] at hb
   obtain rfl := Option.some.inj hb
   rfl) ⟨0, by omega, rfl⟩ e1
 rw [this, fo_fin hn hG h1 h2] at h
 exact (Option.some.inj h).symm
theorem yzc {m : Nat} (h1 : 1 ≤ m) (h2 : m ≤ 12) : spec_foLoops (mat n n G) (m : Int) = some (lcN n G m) := by
 have tot : ∀ (k m : Nat), 1 ≤ m → m ≤ 12 → m ≤ k → spec_foLoops_f k (mat n n G) (m : Int) = some (lcN n G m) := by
  intro k
  induction k with
  | zero => intro m a b c; omega
  | succ k ih => intro m a b c; exact fo_all hn hG a b fun e e1 e2 => ih e e1 (by omega) (by omega)
 have par : ∀ (k m : Nat) (r : Int), 1 ≤ m → m ≤ 12 → spec_foLoops_f k (mat n n G) (m : Int) = some r → r = lcN n G m := by
  intro k
  induction k with
  | zero => intro m r _ _ h; cases h
  | succ k ih => intro m r a b h; exact fo_some hn hG a b (fun e r e1 e2 h => ih e r e1 (by omega) h) h
 exact fuelO_eq m (tot m m h1 h2 (Nat.le_refl m)) fun k r h => par k m r h1 h2 h
end
end Go.PV

/-
 Plain law: FnExactCountLoops.
 Conditions: none.
-/
set_option linter.all false
namespace Go.PV
theorem yad (f : List Pt) (l : List Iv) (k : Int) (hf : f.length ≤ 4611686018427387904) (hl : l.length ≤ 4611686018427387904) : ∃ r, spec_CountLoops f l k = some r ∧ impl_CountLoops f l k = some r := by
 unfold spec_CountLoops impl_CountLoops spec_chAsked spec_foLength
 rw [yla, yna]
 obtain ⟨c, s1, _, _⟩ := yrd f hf
 rcases yyc f l hf hl with ⟨g1, g2⟩ | ⟨m, G, m1, m8, hG, a1, a2, g1, g2⟩
 ·rw [g1, g2, s1]
  simp only [Option.bind_some, Bool.not_false, if_true]
  cases c
  ·exact ⟨_, rfl, rfl⟩
  ·simp only [if_true, ywa l hl, Option.bind_some]
   cases areIv l
   ·exact ⟨_, rfl, rfl⟩
   ·cases inB 1 12 k <;> exact ⟨_, rfl, rfl⟩
 ·rw [g1, g2, a1]
  simp only [Option.bind_some, if_true, ywa l hl, a2, Bool.not_true, Bool.false_eq_true, if_false]
  cases hk : inB 1 12 k
  ·exact ⟨_, rfl, rfl⟩
  ·obtain ⟨k1, k2⟩ := inB_iff.1 hk
   obtain ⟨q, rfl⟩ := Int.eq_ofNat_of_zero_le (show 0 ≤ k by omega)
   simp only [Bool.not_true, Bool.false_eq_true, if_false, Option.bind_some, yzc m8 hG (show 1 ≤ q by omega) (show q ≤ 12 by omega), ydc m8 hG (show 1 ≤ q by omega) (show q ≤ 12 by omega)]
   exact ⟨_, rfl, rfl⟩
theorem laws_FnExactCountLoops_eq (f : List Pt) (l : List Iv) (k : Int) (hf : f.length ≤ 9223372036854775807) (hl : l.length ≤ 9223372036854775807) : laws_FnExactCountLoops f l k = some true := by
 unfold laws_FnExactCountLoops
 rw [show (1048576 : Int) = ((1048576 : Nat) : Int) from rfl, yhc f 1048576 (by omega) hf, Option.bind_some]
 by_cases h : 1048576 < f.length
 ·simp [h]
 ·rw [if_neg h]
  have e : ((1048576 : Nat) : Int) - f.length = ((1048576 - f.length : Nat) : Int) := by omega
  rw [e, if_neg (by simp), ypb l (1048576 - f.length) (by omega) hl, Option.bind_some]
  by_cases h2 : 1048576 - f.length < l.length
  ·simp [h2]
  ·rw [if_neg h2]
   have h3 : ¬ (((1048576 - f.length : Nat) : Int) - l.length < 0) := by omega
   obtain ⟨r, e1, e2⟩ := yad f l k (by omega) (by omega)
   simp only [h3, decide_false, Bool.false_eq_true, if_false, ygc f (by omega), yob l (by omega), e1, e2, Option.bind_some, yub f (by omega), yeb l (by omega), bne_self_eq_false, beq_self_eq_true, Bool.not_true, Bool.or_self]
end Go.PV
