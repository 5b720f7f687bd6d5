/-
  Plain laws of what the functions answer.
  Conditions: none.
-/
import Derived.KernelRfl
import Derived.Lib.IndexMore
import Derived.Lib.AtoiAllCases
import Derived.Test.YtigabkbbbpokbaaGreatDoorPvCx
import Derived.Test.YtigabkbbbpokbaaGreatDoorDf
set_option linter.all false
/-
 Plain laws: bounds, lists of numbers, vectors.
 Conditions: none.
-/
namespace Go.PV
def inB (a b n : Int) : Bool := decide (a ≤ n) && decide (n ≤ b)
theorem inB_iff {a b n : Int} : inB a b n = true ↔ a ≤ n ∧ n ≤ b := by simp [inB]
theorem yki (v a b : Int) : yyi v a b = some (inB a b v) := rfl
theorem yis (v a b : Int) : yvk v a b = some (inB a b v) := rfl
def isVec (xs : List Int) : Bool := inB 1 8 xs.length && xs.all (inB 1 1000000)
end Go.PV

/-
 Plain laws: greatest divisors, fractions, floors, fractions reduced.
 Conditions: none.
-/
namespace Go.PV
theorem yjs (a b : Nat) (hb : b ≠ 0) : Nat.gcd b (a % b) = Nat.gcd a b := by
 rw [Nat.gcd_comm a b, Nat.gcd_rec b a, Nat.gcd_comm]
theorem yba1 (b : Nat) : ∀ a : Nat, loopO yjc ((a : Int), (b : Int)) = some ((Nat.gcd a b : Nat) : Int) := by
 induction b using Nat.strongRecOn with
 | ind b ih =>
  intro a; rw [yar]; by_cases hb : b = 0
  ·subst hb; simp [yjc]
  have hb' : ((b : Int) != 0) = true := by simp; omega
  simp only [yjc, hb', if_true, yda (show (b : Int) ≠ 0 by omega)]; have : Int.tmod (a : Int) (b : Int) = ((a % b : Nat) : Int) := rfl
  rw [this, ih (a % b) (Nat.mod_lt _ (by omega)) b, yjs a b hb]
theorem yca1 (b : Nat) : ∀ a : Nat, loopO yqg ((a : Int), (b : Int)) = some ((Nat.gcd a b : Nat) : Int) := by
 induction b using Nat.strongRecOn with
 | ind b ih =>
  intro a; rw [yar]; by_cases hb : b = 0
  ·subst hb; simp [yqg]
  have hb' : decide ((b : Int) > 0) = true := by simp; omega
  simp only [yqg, hb', if_true, yda (show (b : Int) ≠ 0 by omega)]; have : Int.tmod (a : Int) (b : Int) = ((a % b : Nat) : Int) := rfl
  rw [this, ih (a % b) (Nat.mod_lt _ (by omega)) b, yjs a b hb]
theorem yyw (a : Int) (h : -9223372036854775808 < a) (h2 : a ≤ 9223372036854775807) : yvt a = some (a.natAbs : Int) := by
 unfold yvt
 by_cases ha : a < 0
 ·simp only [ha, decide_true, if_true]; rw [yka (by omega) (by omega)]; congr 1; omega
 simp only [ha, decide_false, Bool.false_eq_true, if_false]; congr 1; omega
theorem ydp (a : Int) (h : -9223372036854775808 < a) (h2 : a ≤ 9223372036854775807) : ykl a = some (a.natAbs : Int) := by
 unfold ykl ywk
 rw [yka (by omega) (by omega)]
 by_cases ha : a > 0 - a
 ·simp only [ha, decide_true, if_true, Option.bind_some]; congr 1; omega
 simp only [ha, decide_false, Bool.false_eq_true, if_false, Option.bind_some]; congr 1; omega
theorem ymj (a b : Int) (h : -9223372036854775808 < a) (h2 : a ≤ 9223372036854775807) (h3 : -9223372036854775808 < b) (h4 : b ≤ 9223372036854775807) :
  ylc a b = some ((Int.gcd a b : Nat) : Int) := by
 simp only [ylc, yyw a h h2, yyw b h3 h4, Option.bind_some, yba1, ywd]
 rfl
theorem yep (a b : Int) (h : 0 ≤ a) (h2 : 0 ≤ b) : yri a b = some ((Int.gcd a b : Nat) : Int) := by
 obtain ⟨m, rfl⟩ := Int.eq_ofNat_of_zero_le h
 obtain ⟨n, rfl⟩ := Int.eq_ofNat_of_zero_le h2
 simp only [yri]
 rw [yca1]
 rfl
def isRat (r : Int × Int) : Bool := inB 1 1000000000 r.2 && (inB (-1000000000) 1000000000 r.1 && (Int.gcd r.1 r.2 : Int) == 1)
theorem isRat_iff {r : Int × Int} : isRat r = true ↔ 1 ≤ r.2 ∧ r.2 ≤ 1000000000 ∧ -1000000000 ≤ r.1 ∧ r.1 ≤ 1000000000 ∧ Int.gcd r.1 r.2 = 1 := by
 simp only [isRat, Bool.and_eq_true, inB_iff, beq_iff_eq]
 constructor
 ·rintro ⟨⟨h1, h2⟩, ⟨h3, h4⟩, h5⟩; exact ⟨h1, h2, h3, h4, by omega⟩
 rintro ⟨h1, h2, h3, h4, h5⟩; exact ⟨⟨h1, h2⟩, ⟨h3, h4⟩, by omega⟩
theorem yif (r : Int × Int) : yrg r = some (isRat r) := by
 unfold yrg isRat
 simp only [yis, Option.bind_some]
 cases h1 : inB 1 1000000000 r.2
 ·rfl
 cases h2 : inB (-1000000000) 1000000000 r.1
 ·rfl
 have h1' := inB_iff.1 h1
 have h2' := inB_iff.1 h2
 simp only [if_true, ymj r.1 r.2 (by omega) (by omega) (by omega) (by omega), Option.bind_some, Bool.true_and]
theorem ybh (r : Int × Int) : yxf r = some (isRat r) := by
 unfold yxf isRat
 simp only [yki, Option.bind_some]
 cases h1 : inB 1 1000000000 r.2
 ·rfl
 cases h2 : inB (-1000000000) 1000000000 r.1
 ·rfl
 have h1' := inB_iff.1 h1
 have h2' := inB_iff.1 h2
 simp only [if_true, ydp r.1 (by omega) (by omega), yep _ r.2 (Int.natCast_nonneg _) (by omega), Option.bind_some, Bool.true_and]
 rfl
theorem ymm (l : List (Int × Int)) (hl : l.length ≤ 4611686018427387904) : yli l = some (l.all isRat) := by
 have h := ykm1 (xs := l) (body := yyh l) (fun x => !isRat x) (fun i => (i : Int)) (.inl false) (.inr ()) (fun i x hx => by
  have hi := getElem?_lt hx
  simp only [yyh, ylm, hx, yif, Option.bind_some, ywe (show i < 9223372036854775807 by omega), show ((i : Int) < (l.length : Int)) from by omega, decide_true, if_true]; cases isRat x <;> rfl) (by simp [yyh])
 unfold yli
 rw [show (0 : Int) = ((0 : Nat) : Int) from rfl, h, List.any_eq_not_all_not]
 simp only [Bool.not_not]
 cases l.all isRat <;> rfl
def lowest (n d : Int) : (Int × Int) × Bool :=
 let g := if d < 0 then -(Int.gcd n d : Int) else Int.gcd n d
 if isRat (Int.tdiv n g, Int.tdiv d g) then ((Int.tdiv n g, Int.tdiv d g), true) else ((0, 0), false)
theorem yux (n g : Int) (h : -9223372036854775808 < n) (h2 : n ≤ 9223372036854775807) (hg : g ≠ 0) : w64 (Int.tdiv n g) = Int.tdiv n g := by
 have h1 : (Int.tdiv n g).natAbs ≤ n.natAbs := by rw [Int.natAbs_tdiv]; exact Nat.div_le_self _ _
 exact yka (by omega) (by omega)
theorem yeo (n d : Int) (hd : d ≠ 0) (h : -9223372036854775808 < n) (h2 : n ≤ 9223372036854775807) (h3 : -9223372036854775808 < d) (h4 : d ≤ 9223372036854775807) : ytj n d = some (lowest n d) := by
 have hg0 : Int.gcd n d ≠ 0 := by rw [Ne, Int.gcd_eq_zero_iff]; omega
 have hgl : (Int.gcd n d : Int) ≤ 9223372036854775807 := by
  have : Int.gcd n d ≤ d.natAbs := Nat.gcd_le_right _ (by omega)
  omega
 have key : ∀ g : Int, g ≠ 0 → yeh n d g = some (if isRat (Int.tdiv n g, Int.tdiv d g) then ((Int.tdiv n g, Int.tdiv d g), true) else ((0, 0), false)) := fun g hg => by
  simp only [yeh, yda hg, yux n g h h2 hg, yux d g h3 h4 hg, yif, Option.bind_some]; cases isRat (Int.tdiv n g, Int.tdiv d g) <;> rfl
 unfold ytj lowest
 simp only [ymj n d h h2 h3 h4, Option.bind_some]
 by_cases hneg : d < 0
 ·simp only [hneg, decide_true, if_true]
  rw [show (0 : Int) - (Int.gcd n d : Int) = -(Int.gcd n d : Int) by omega, yka (by omega) (by omega), key _ (by omega)]
 simp only [hneg, decide_false, Bool.false_eq_true, if_false]
 rw [key _ (by omega)]
theorem ymk {a b : Int} (ha : -1000000000 ≤ a) (ha2 : a ≤ 1000000000) (hb : -1000000000 ≤ b) (hb2 : b ≤ 1000000000) : -1000000000000000000 ≤ a * b ∧ a * b ≤ 1000000000000000000 := by
 have h1 : (a * b).natAbs ≤ 1000000000 * 1000000000 := by
  rw [Int.natAbs_mul]; exact Nat.mul_le_mul (by omega) (by omega)
 omega
theorem yrq (a b : Int × Int) : ymi a b = some (if isRat a && isRat b then lowest (a.1 * b.2 + b.1 * a.2) (a.2 * b.2) else ((0, 0), false)) := by
 unfold ymi
 rw [ymm _ (by simp)]
 simp only [Option.bind_some, List.all_cons, List.all_nil, Bool.and_true]
 cases ha : isRat a
 ·rfl
 cases hb : isRat b
 ·rfl
 obtain ⟨a1, a2, a3, a4, _⟩ := isRat_iff.1 ha
 obtain ⟨b1, b2, b3, b4, _⟩ := isRat_iff.1 hb
 have m1 := ymk a3 a4 (show -1000000000 ≤ b.2 by omega) b2
 have m2 := ymk b3 b4 (show -1000000000 ≤ a.2 by omega) a2
 have m3 := ymk (show -1000000000 ≤ a.2 by omega) a2 (show -1000000000 ≤ b.2 by omega) b2
 have hne : a.2 * b.2 ≠ 0 := Int.mul_ne_zero (by omega) (by omega)
 simp only [Bool.and_self, Bool.not_true, Bool.false_eq_true, if_false, if_true]
 rw [yka (n := a.1 * b.2) (by omega) (by omega), yka (n := b.1 * a.2) (by omega) (by omega), yka (n := a.1 * b.2 + b.1 * a.2) (by omega) (by omega), yka (n := a.2 * b.2) (by omega) (by omega), yeo _ _ hne (by omega) (by omega) (by omega) (by omega)]
 rfl
def near (r : Int × Int) : Bool := isRat r && inB (-1000 * r.2) (1000 * r.2) r.1
theorem ywi (r : Int × Int) : ysj r = some (near r) := by
 unfold ysj near
 simp only [ybh, Option.bind_some, yki]
 cases h : isRat r
 ·rfl
 obtain ⟨h1, h2, h3, h4, _⟩ := isRat_iff.1 h
 simp only [if_true, Option.bind_some, Bool.true_and]
 rw [yka (by omega) (by omega), yka (by omega) (by omega)]
def cmp (a b : Int × Int) : Int := if a.1 * b.2 < b.1 * a.2 then -1 else if a.1 * b.2 > b.1 * a.2 then 1 else 0
def tame (r : Int × Int) : Prop := -1000000000 ≤ r.1 ∧ r.1 ≤ 1000000000 ∧ -1000000000 ≤ r.2 ∧ r.2 ≤ 1000000000
theorem ypc {r : Int × Int} (h : isRat r = true) : tame r := by
 obtain ⟨h1, h2, h3, h4, _⟩ := isRat_iff.1 h
 exact ⟨h3, h4, by omega, h2⟩
theorem ynm (a b : Int × Int) (ha : tame a) (hb : tame b) : ymc a b = some (cmp a b) := by
 obtain ⟨a1, a2, a3, a4⟩ := ha
 obtain ⟨b1, b2, b3, b4⟩ := hb
 have m1 := ymk a1 a2 b3 b4
 have m2 := ymk b1 b2 a3 a4
 unfold ymc cmp
 rw [yka (n := a.1 * b.2) (by omega) (by omega), yka (n := b.1 * a.2) (by omega) (by omega)]
 by_cases h1 : a.1 * b.2 < b.1 * a.2
 ·simp [h1]
 by_cases h2 : a.1 * b.2 > b.1 * a.2
 ·simp [h1, h2]
 simp [h1, h2]
def less (a b : Int × Int) : Bool := decide (a.1 * b.2 < b.1 * a.2)
theorem ynf (a b : Int × Int) (ha : tame a) (hb : tame b) : ydh a b = some (less a b) := by
 unfold ydh less
 rw [ynm a b ha hb]
 unfold cmp
 by_cases h1 : a.1 * b.2 < b.1 * a.2
 ·simp [h1]
 by_cases h2 : a.1 * b.2 > b.1 * a.2
 ·simp [h1, h2]
 simp [h1, h2]
theorem yfp (r : Int × Int) : yml r = some (near r) := by
 unfold yml near
 simp only [yif, Option.bind_some, yhe]
 cases h : isRat r
 ·rfl
 have ht := ypc h
 simp only [if_true, ynf r (-1000, 1) ht ⟨by decide, by decide, by decide, by decide⟩, ynf (1000, 1) r ⟨by decide, by decide, by decide, by decide⟩ ht, Option.bind_some, less, Bool.true_and, inB]
 simp only [Int.mul_one]
 by_cases h1 : r.1 < -1000 * r.2
 ·have : ¬ (-1000 * r.2 ≤ r.1) := by omega
  simp [h1, this]
 have h3 : -1000 * r.2 ≤ r.1 := by omega
 by_cases h2 : 1000 * r.2 < r.1
 ·have : ¬ (r.1 ≤ 1000 * r.2) := by omega
  simp [h1, h2, h3, this]
 have h4 : r.1 ≤ 1000 * r.2 := by omega
 simp [h1, h2, h3, h4]
def floorDiv (n d : Int) : Int := if Int.tmod n d < 0 then Int.tdiv n d - 1 else Int.tdiv n d
theorem yzl (n d : Int) (hd : 0 < d) : floorDiv n d * d ≤ n ∧ n < floorDiv n d * d + d := by
 have h1 := Int.tmod_add_mul_tdiv n d
 have h2 := Int.tmod_lt_of_pos n hd
 have h3 : -d < Int.tmod n d := by
  have := Int.lt_tmod_of_pos n hd
  omega
 unfold floorDiv
 rw [Int.mul_comm] at h1
 split
 ·rw [Int.sub_mul]; omega
 omega
theorem ygp (n d : Int) : (Int.tdiv n d).natAbs ≤ n.natAbs := by rw [Int.natAbs_tdiv]; exact Nat.div_le_self _ _
theorem yam (n d : Int) (hd : d ≠ 0) (h : -9223372036854775807 < n) (h2 : n ≤ 9223372036854775807) : ysg n d = some (floorDiv n d) := by
 have h1 := ygp n d
 unfold ysg floorDiv
 rw [yda hd, yka (n := Int.tdiv n d) (by omega) (by omega), yka (n := Int.tdiv n d - 1) (by omega) (by omega)]
 by_cases h3 : Int.tmod n d < 0 <;> simp [h3]
theorem yks (n d : Int) (hd : d ≠ 0) (h : -9223372036854775807 < n) (h2 : n ≤ 9223372036854775807) : ykn n d = some (floorDiv n d) := by
 have h1 := ygp n d
 unfold ykn floorDiv
 have : (d == 0) = false := by simpa using hd
 simp only [this, Bool.false_eq_true, if_false]
 rw [yda hd, yka (n := Int.tdiv n d) (by omega) (by omega), yka (n := Int.tdiv n d - 1) (by omega) (by omega)]
 by_cases h3 : Int.tmod n d < 0 <;> simp [h3]
theorem ysq {r : Int × Int} (h : isRat r = true) : lowest r.1 r.2 = (r, true) := by
 obtain ⟨h1, h2, h3, h4, h5⟩ := isRat_iff.1 h
 unfold lowest
 have : ¬ r.2 < 0 := by omega
 simp only [this, if_false, h5]
 simp [h]
def reduceRat (r : Int × Int) : (Int × Int) × Bool := if near r then ((r.1 - floorDiv r.1 r.2 * r.2, r.2), true) else ((0, 0), false)
theorem ynu (r : Int × Int) : yzi r = some (reduceRat r) := by
 unfold yzi reduceRat
 rw [ywi, Option.bind_some]
 cases h : near r
 ·rfl
 simp only [near, Bool.and_eq_true, inB_iff] at h
 obtain ⟨hr, h6, h7⟩ := h
 obtain ⟨h1, h2, h3, h4, h5⟩ := isRat_iff.1 hr
 have hf := yzl r.1 r.2 (by omega)
 have hb := ygp r.1 r.2
 have hfb : -1000000001 ≤ floorDiv r.1 r.2 ∧ floorDiv r.1 r.2 ≤ 1000000000 := by unfold floorDiv; split <;> omega
 simp only [Bool.not_true, Bool.false_eq_true, if_false, if_true, yre, yks r.1 r.2 (by omega) (by omega) (by omega), Option.bind_some, yfb]
 rw [yka (n := 0 - floorDiv r.1 r.2) (by omega) (by omega)]
 have e : (0 - floorDiv r.1 r.2) * r.2 = -(floorDiv r.1 r.2 * r.2) := by rw [Int.sub_mul]; omega
 rw [e, yka (n := -(floorDiv r.1 r.2 * r.2)) (by omega) (by omega), yka (by omega) (by omega)]
 congr 3
theorem you (r : Int × Int) : yaj r = some (reduceRat r) := by
 unfold yaj reduceRat
 rw [yfp, Option.bind_some]
 cases h : near r
 ·rfl
 simp only [near, Bool.and_eq_true, inB_iff] at h
 obtain ⟨hr, h6, h7⟩ := h
 obtain ⟨h1, h2, h3, h4, h5⟩ := isRat_iff.1 hr
 have hf := yzl r.1 r.2 (by omega)
 have hfb : -1000 ≤ floorDiv r.1 r.2 ∧ floorDiv r.1 r.2 ≤ 1000 := by
  constructor
  ·by_cases h : floorDiv r.1 r.2 < -1000
   ·have : floorDiv r.1 r.2 * r.2 + r.2 ≤ -1000 * r.2 := by
     have : (floorDiv r.1 r.2 + 1) * r.2 ≤ -1000 * r.2 := Int.mul_le_mul_of_nonneg_right (by omega) (by omega)
     rw [Int.add_mul] at this; omega
    omega
   omega
  by_cases h : 1000 < floorDiv r.1 r.2
  ·have : 1001 * r.2 ≤ floorDiv r.1 r.2 * r.2 := Int.mul_le_mul_of_nonneg_right (by omega) (by omega)
   omega
  omega
 simp only [Bool.not_true, Bool.false_eq_true, if_false, if_true, yxh, yam r.1 r.2 (by omega) (by omega) (by omega), Option.bind_some, yhe, yed, ynl, yrq]
 rw [yka (n := 0 - floorDiv r.1 r.2) (by omega) (by omega)]
 have hone : isRat (0 - floorDiv r.1 r.2, 1) = true := isRat_iff.2 ⟨by simp, by simp, by simp only []; omega, by simp only []; omega, by simp⟩
 simp only [hr, hone, Bool.and_self, if_true, Int.mul_one]
 have e : r.1 + (0 - floorDiv r.1 r.2) * r.2 = r.1 - floorDiv r.1 r.2 * r.2 := by rw [Int.sub_mul]; omega
 rw [e]
 have hres : isRat (r.1 - floorDiv r.1 r.2 * r.2, r.2) = true := isRat_iff.2 ⟨h1, h2, by simp only []; omega, by simp only []; omega, by
  simp only []; rw [show r.1 - floorDiv r.1 r.2 * r.2 = r.1 + (-(floorDiv r.1 r.2)) * r.2 by rw [Int.neg_mul]; omega, Int.gcd_add_mul_right_left]
  exact h5⟩
 rw [ysq hres]
end Go.PV

set_option linter.all false
namespace Go.PV
abbrev Pt := (Int × Int) × (Int × Int)
def zP : Pt := ((0, 0), (0, 0))
theorem yeg (xs : List Pt) (f : Pt → Option Bool) (p : Pt → Bool) (hf : ∀ x, f x = some (p x)) (hl : xs.length ≤ 4611686018427387904) :
  yfa xs f = some (match xs.findIdx? p with | some i => (i : Int) | none => -1) := by
 have h := yaa1 (xs := xs) (body := yga xs f) p (fun i => (i : Int)) (fun i => .inl (i : Int)) (.inr ()) (fun i x hx => by
  have hi := getElem?_lt hx
  simp only [yga, ylm, hx, hf, Option.bind_some, ywe (show i < 9223372036854775807 by omega), show ((i : Int) < (xs.length : Int)) from by omega, decide_true, if_true]
  cases p x <;> rfl) (by simp [yga])
 unfold yfa
 rw [show (0 : Int) = ((0 : Nat) : Int) from rfl, h]
 cases xs.findIdx? p <;> rfl
theorem ygf (xs : List Pt) (f : Pt → Option Bool) (p : Pt → Bool) (hf : ∀ x, f x = some (p x)) (hl : xs.length ≤ 4611686018427387904) : yra xs f = some (xs.any p) := by
 simp only [yra, yeg xs f p hf hl, Option.bind_some]
 cases h : xs.findIdx? p with
 | none =>
  have hn := List.findIdx?_eq_none_iff.1 h
  have : xs.any p = false := by simpa using hn
  simp [this]
 | some m =>
  obtain ⟨hm, hp, _⟩ := List.findIdx?_eq_some_iff_getElem.1 h
  have : xs.any p = true := List.any_eq_true.2 ⟨xs[m], List.getElem_mem hm, hp⟩
  simp [this]
theorem yfc (a b : Int × Int) (ha : tame a) (hb : tame b) : yuc a b = some (cmp a b) := by
 obtain ⟨a1, a2, a3, a4⟩ := ha
 obtain ⟨b1, b2, b3, b4⟩ := hb
 have m1 := ymk a1 a2 b3 b4
 have m2 := ymk b1 b2 a3 a4
 unfold yuc yln cmp
 rw [yka (n := a.1 * b.2) (by omega) (by omega), yka (n := b.1 * a.2) (by omega) (by omega), yka (n := a.1 * b.2 - b.1 * a.2) (by omega) (by omega)]
 by_cases h1 : a.1 * b.2 < b.1 * a.2
 ·have : ¬ (a.1 * b.2 - b.1 * a.2 > 0) := by omega
  have h3 : a.1 * b.2 - b.1 * a.2 < 0 := by omega
  simp [h1, h3]; omega
 by_cases h2 : a.1 * b.2 > b.1 * a.2
 ·have : a.1 * b.2 - b.1 * a.2 > 0 := by omega
  simp [h1, h2, this]
 have h3 : ¬ (a.1 * b.2 - b.1 * a.2 > 0) := by omega
 have h4 : ¬ (a.1 * b.2 - b.1 * a.2 < 0) := by omega
 simp [h1, h2, h3, h4]
theorem ybs1 (a b : Int × Int) : decide (cmp a b ≥ 0) = !less a b := by
 unfold cmp less
 by_cases h1 : a.1 * b.2 < b.1 * a.2
 ·simp [h1]
 by_cases h2 : a.1 * b.2 > b.1 * a.2 <;> simp [h1, h2]
theorem yxp1 (a b : Int × Int) : decide (cmp a b > 0) = less b a := by
 unfold cmp less
 by_cases h1 : a.1 * b.2 < b.1 * a.2
 ·have : ¬ b.1 * a.2 < a.1 * b.2 := by omega
  simp [h1, this]
 by_cases h2 : a.1 * b.2 > b.1 * a.2
 ·simp [h1, h2]
 have : ¬ b.1 * a.2 < a.1 * b.2 := by omega
 simp [h1, h2]
theorem ylm1 (a b : Int × Int) : (cmp a b == 0) = (a.1 * b.2 == b.1 * a.2) := by
 unfold cmp
 by_cases h1 : a.1 * b.2 < b.1 * a.2
 ·have : ¬ a.1 * b.2 = b.1 * a.2 := by omega
  simp [h1, this]
 by_cases h2 : a.1 * b.2 > b.1 * a.2
 ·have : ¬ a.1 * b.2 = b.1 * a.2 := by omega
  simp [h1, h2, this]
 have : a.1 * b.2 = b.1 * a.2 := by omega
 simp [this]
def isUnit (r : Int × Int) : Bool := isRat r && inB 0 r.2 r.1
def coord (r : Int × Int) : Bool := isUnit r && decide (r.2 ≤ 100)
theorem yvx (r : Int × Int) : ynn r = some (isUnit r) := by
 unfold ynn isUnit
 simp only [ybh, Option.bind_some, yki]
 cases isRat r <;> simp
theorem ywx (r : Int × Int) : yon r = some (isUnit r) := by
 simp [yon, yif, isUnit, inB]
theorem ykw (r : Int × Int) : yuj r = some (coord r) := by simp [yuj, yvx, coord]
theorem ylw (r : Int × Int) : yol r = some (coord r) := by simp [yol, ywx, coord]
theorem yvd {r : Int × Int} (h : coord r = true) : isRat r = true := by
 simp only [coord, isUnit, Bool.and_eq_true] at h
 exact h.1.1
def goodPt (p : Pt) : Bool := coord p.1 && (isRat p.2 && (decide (p.2.2 ≤ 100) && inB (-5 * p.2.2) (5 * p.2.2) p.2.1))
theorem yuk {p : Pt} (h : goodPt p = true) : isRat p.1 = true ∧ isRat p.2 = true := by
 simp only [goodPt, Bool.and_eq_true] at h
 exact ⟨yvd h.1, h.2.1⟩
theorem yqv (p : Pt) : ysi p = some (!goodPt p) := by
 unfold ysi goodPt
 simp only [ylw, yif, yhe, Option.bind_some]
 cases h1 : coord p.1
 ·simp
 cases h : isRat p.2
 ·simp
 have ht := ypc h
 obtain ⟨h2, h3, h4, h5, _⟩ := isRat_iff.1 h
 by_cases h6 : p.2.2 > 100
 ·have : ¬ p.2.2 ≤ 100 := by omega
  simp [h6, this]
 have h7 : p.2.2 ≤ 100 := by omega
 simp only [Bool.not_true, Bool.false_eq_true, if_false, h6, h7, decide_false, decide_true, ynf p.2 (-5, 1) ht ⟨by decide, by decide, by decide, by decide⟩, ynf (5, 1) p.2 ⟨by decide, by decide, by decide, by decide⟩ ht, Option.bind_some, less, Bool.true_and, inB]
 simp only [Int.mul_one]
 by_cases h8 : p.2.1 < -5 * p.2.2
 ·have : ¬ (-5 * p.2.2 ≤ p.2.1) := by omega
  simp [h8, this]
 have h9 : -5 * p.2.2 ≤ p.2.1 := by omega
 by_cases h10 : 5 * p.2.2 < p.2.1
 ·have : ¬ (p.2.1 ≤ 5 * p.2.2) := by omega
  simp [h8, h9, h10, this]
 have h11 : p.2.1 ≤ 5 * p.2.2 := by omega
 simp [h8, h9, h10, h11]
def stepPt (a b : Pt) : Bool := less a.1 b.1 && !less b.2 a.2
def steps (xs : List Pt) (n : Nat) : Prop := ∀ i a b, 0 < i → i < n → xs[i - 1]? = some a → xs[i]? = some b → stepPt a b = true
theorem yda1 {xs : List Pt} {i : Nat} {a b : Pt} (h : steps xs i) (ha : xs[i - 1]? = some a) (hb : xs[i]? = some b) (hs : stepPt a b = true) : steps xs (i + 1) := by
 intro j c d h1 h2 h3 h4
 by_cases hj : j = i
 ·subst hj; rw [ha] at h3; rw [hb] at h4; cases h3; cases h4; exact hs
 exact h j c d h1 (by omega) h3 h4
def ends (xs : List Pt) : Bool := match xs[0]?, xs[xs.length - 1]? with
 | some a, some b => (a.1 == (0, 1)) && ((b.1 == (1, 1)) && (b.2 == (a.2.1 + a.2.2, a.2.2)))
 | _, _ => false
open Classical in
noncomputable def isLift (xs : List Pt) : Bool := inB 2 12 xs.length && (decide (xs.all goodPt = true ∧ steps xs xs.length) && ends xs)
end Go.PV

/-
 Plain laws: lists and tables by their places.
 Conditions: none.
-/
namespace Go.PV
section
variable {α β : Type}
def tab (n : Nat) (f : Nat → α) : List α := (List.range n).map f
theorem yzd (n : Nat) (f : Nat → α) : (tab n f).length = n := by simp [tab]
theorem yrk1 {n i : Nat} {f : Nat → α} (h : i < n) : (tab n f)[i]? = some (f i) := by simp [tab, h]
theorem ywb1 {n i : Nat} {f : Nat → α} (h : n ≤ i) : (tab n f)[i]? = none := by simp [tab, h]
theorem yrb {n i : Nat} {f : Nat → α} (h : i < n) : idxO (tab n f) (i : Int) = some (f i) := by rw [ylm, yrk1 h]
theorem ymm1 (n : Nat) (f : Nat → α) : tab n f ++ [f n] = tab (n + 1) f := by simp [tab, List.range_succ]
theorem yyp1 [Inhabited α] (xs : List α) : xs = tab xs.length (fun i => xs.getD i default) := by
 apply List.ext_getElem?
 intro j
 by_cases hj : j < xs.length
 ·rw [yrk1 hj]; simp [hj]
 rw [ywb1 (by omega)]; simp; omega
theorem tab_mem {n : Nat} {f : Nat → α} {x : α} : x ∈ tab n f ↔ ∃ i, i < n ∧ f i = x := by simp [tab]
def mat (n m : Nat) (f : Nat → Nat → α) : List (List α) := tab n fun i => tab m (f i)
def foldN (n : Nat) (g : β → Nat → β) (s : β) : β := (List.range n).foldl g s
theorem yea1 (n : Nat) (g : β → Nat → β) (s : β) : foldN (n + 1) g s = g (foldN n g s) n := by simp [foldN, List.range_succ]
theorem yng1 (g : β → Nat → β) (s : β) : foldN 0 g s = s := rfl
end
end Go.PV

/-
 Plain laws: graphs, numbers of walks.
 Conditions: none.
-/
namespace Go.PV
def sized (g : List (List Int)) : Prop := g.length ≤ 1048576 ∧ ∀ row ∈ g, row.length ≤ 1048576
def isGraph (g : List (List Int)) : Bool := inB 1 8 g.length && g.all fun row => (row.length : Int) == g.length && row.all (inB 0 9)
end Go.PV

/-
 Plain laws: powers of graphs' tables, numbers of all walks.
 Conditions: none.
-/
namespace Go.PV
def capMul (most acc w a : Int) : Int := if most < w64 (acc + w64 (w * a)) then most else w64 (acc + w64 (w * a))
def powStep (n : Nat) (G : Nat → Nat → Int) (most : Int) (F : Nat → Nat → Int) : Nat → Nat → Int := fun i j => foldN n (fun acc k => capMul most acc (F i k) (G k j)) 0
def idM : Nat → Nat → Int := fun i j => if i = j then 1 else 0
def powN (n : Nat) (G : Nat → Nat → Int) (most : Int) : Nat → Nat → Nat → Int
 | 0 => idM
 | m + 1 => powStep n G most (powN n G most m)
section impl
variable {n : Nat} {G : Nat → Nat → Int} {most : Int}
end impl
section spec
variable {n : Nat} {G : Nat → Nat → Int}
end spec
def capAt (x : Int) : Int := if 1000000001 < x then 1000000001 else x
def total (g : List (List Int)) : Int := (g.map List.sum).sum
def totalWalks (g : List (List Int)) (m : Int) : Int × Bool :=
 if isGraph g && inB 0 12 m then
  let t := total (mat g.length g.length (powN g.length (fun i j => (g.getD i []).getD j 0) 1000000001 m.toNat))
  if t > 1000000000 then (0, false) else (t, true)
 else (0, false)
end Go.PV

set_option linter.all false
namespace Go.PV
theorem yxb1 {n d : Int} (h1 : 0 ≤ n) (h2 : n ≤ 1000000000) (h3 : 1 ≤ d) (h4 : d ≤ 1000000000) : isRat (lowest n d).1 = true := by
 have hg : 0 < Int.gcd n d := Int.gcd_pos_of_ne_zero_right _ (by omega)
 have key : isRat (Int.tdiv n (Int.gcd n d : Int), Int.tdiv d (Int.gcd n d : Int)) = true := by
  obtain ⟨a, rfl⟩ := Int.eq_ofNat_of_zero_le h1; obtain ⟨b, rfl⟩ := Int.eq_ofNat_of_zero_le (show 0 ≤ d by omega)
  have e : Int.gcd (a : Int) (b : Int) = Nat.gcd a b := rfl
  rw [e] at hg ⊢
  have e1 : Int.tdiv (a : Int) ((Nat.gcd a b : Nat) : Int) = ((a / Nat.gcd a b : Nat) : Int) := by rw [Int.tdiv_eq_ediv_of_nonneg (by omega)]; rfl
  have e2 : Int.tdiv (b : Int) ((Nat.gcd a b : Nat) : Int) = ((b / Nat.gcd a b : Nat) : Int) := by rw [Int.tdiv_eq_ediv_of_nonneg (by omega)]; rfl
  rw [e1, e2, isRat_iff]; have l1 : a / Nat.gcd a b ≤ a := Nat.div_le_self _ _
  have l2 : b / Nat.gcd a b ≤ b := Nat.div_le_self _ _
  have l3 : 0 < b / Nat.gcd a b := Nat.div_pos (Nat.le_of_dvd (by omega) (Nat.gcd_dvd_right a b)) hg
  have l4 : ((a / Nat.gcd a b : Nat) : Int) ≤ 1000000000 := by omega
  have l5 : ((b / Nat.gcd a b : Nat) : Int) ≤ 1000000000 := by omega
  have l6 : 1 ≤ ((b / Nat.gcd a b : Nat) : Int) := by omega
  have l7 : 0 ≤ ((a / Nat.gcd a b : Nat) : Int) := Int.natCast_nonneg _
  generalize hA : ((a / Nat.gcd a b : Nat) : Int) = A at l4 l7 ⊢
  generalize hB : ((b / Nat.gcd a b : Nat) : Int) = B at l5 l6 ⊢
  refine ⟨l6, l5, by show -1000000000 ≤ A; omega, l4, ?_⟩
  rw [← hA, ← hB]; exact Nat.coprime_div_gcd_div_gcd hg
 have hdn : ¬ d < 0 := by omega
 unfold lowest
 simp only [if_neg hdn]
 rw [if_pos key]
 exact key
theorem yyb1 {a b : Int × Int} (ha : isRat a = true) (hb : isRat b = true) (h : a.1 * b.2 = b.1 * a.2) : a = b := by
 obtain ⟨a1, a2, a3, a4, a5⟩ := isRat_iff.1 ha
 obtain ⟨b1, b2, b3, b4, b5⟩ := isRat_iff.1 hb
 obtain ⟨p, q⟩ := a
 obtain ⟨r, s⟩ := b
 simp only at *
 have hn : p.natAbs * s.natAbs = r.natAbs * q.natAbs := by rw [← Int.natAbs_mul, ← Int.natAbs_mul, h]
 have c1 : Nat.Coprime p.natAbs q.natAbs := a5
 have c2 : Nat.Coprime r.natAbs s.natAbs := b5
 have d1 : s.natAbs ∣ q.natAbs := by
  have : s.natAbs ∣ r.natAbs * q.natAbs := ⟨p.natAbs, by rw [← hn]; exact Nat.mul_comm _ _⟩
  exact c2.symm.dvd_of_dvd_mul_left this
 have d2 : q.natAbs ∣ s.natAbs := by
  have : q.natAbs ∣ p.natAbs * s.natAbs := ⟨r.natAbs, by rw [hn]; exact Nat.mul_comm _ _⟩
  exact c1.symm.dvd_of_dvd_mul_left this
 have hqs : q.natAbs = s.natAbs := Nat.dvd_antisymm d2 d1
 have hq : q = s := by omega
 subst hq
 have : p = r := Int.eq_of_mul_eq_mul_right (by omega) h
 rw [this]
def dotN (G : Nat → Int) (v : Nat → Int) (n : Nat) : Int := foldN n (fun s j => s + G j * v j) 0
end Go.PV

/-
 Plain laws: sums, products and quotients of fractions, with what is too large told.
 Conditions: none.
-/
set_option linter.all false
namespace Go.PV
abbrev Rt := Int × Int
def unO : Option Rt → Rt × Bool
 | some r => (r, true)
 | none => ((0, 0), false)
def lowQ (n d : Int) : Option Rt := if (lowest n d).2 = true then some (lowest n d).1 else none
theorem yzw (n d : Int) : ∃ x : Rt, lowest n d = if isRat x = true then (x, true) else ((0, 0), false) := ⟨_, rfl⟩
theorem ygj1 {n d : Int} (h : (lowest n d).2 = false) : lowest n d = ((0, 0), false) := by
 obtain ⟨x, e⟩ := yzw n d
 rw [e] at h ⊢
 by_cases h2 : isRat x = true
 ·rw [if_pos h2] at h; cases h
 rw [if_neg h2]
theorem yls (n d : Int) : lowest n d = unO (lowQ n d) := by
 unfold lowQ
 cases h : (lowest n d).2
 ·rw [ygj1 h]; rfl
 have : lowest n d = ((lowest n d).1, (lowest n d).2) := rfl
 rw [this, h]; rfl
theorem yog1 {n d : Int} (h : (lowest n d).2 = true) : isRat (lowest n d).1 = true := by
 obtain ⟨x, e⟩ := yzw n d
 rw [e] at h ⊢
 by_cases h2 : isRat x = true
 ·rw [if_pos h2]; exact h2
 rw [if_neg h2] at h; cases h
theorem ypt {n d : Int} {r : Rt} (h : lowQ n d = some r) : isRat r = true := by
 unfold lowQ at h
 split at h
 ·rename_i h2; obtain rfl := Option.some.inj h; exact yog1 h2
 cases h
theorem ymd (n d : Int) (hd : d ≠ 0) (h1 : -4000000000000000000 ≤ n) (h2 : n ≤ 4000000000000000000) (h3 : -4000000000000000000 ≤ d) (h4 : d ≤ 4000000000000000000) : yyc n d = some (unO (lowQ n d)) := by
 have hg : 0 < Int.gcd n d := Int.gcd_pos_of_ne_zero_right _ hd
 have hd0 : (d == 0) = false := by simpa using hd
 have hgl : (Int.gcd n d : Int) ≤ 4000000000000000000 := by
  have : Int.gcd n d ≤ d.natAbs := Nat.gcd_le_right _ (by omega)
  omega
 have e : Int.gcd (n.natAbs : Int) (d.natAbs : Int) = Int.gcd n d := rfl
 have key : ∀ g : Int, g ≠ 0 → yfh n d g = some (if isRat (Int.tdiv n g, Int.tdiv d g) then ((Int.tdiv n g, Int.tdiv d g), true) else ((0, 0), false)) := fun g hg => by
  simp only [yfh, yda hg, yux n g (by omega) (by omega) hg, yux d g (by omega) (by omega) hg, ybh, Option.bind_some]; cases isRat (Int.tdiv n g, Int.tdiv d g) <;> rfl
 rw [← yls]
 unfold yyc lowest
 simp only [hd0, Bool.false_eq_true, if_false, ydp n (by omega) (by omega), ydp d (by omega) (by omega), Option.bind_some, yep (n.natAbs : Int) (d.natAbs : Int) (by omega) (by omega), e]
 by_cases hneg : d < 0
 ·simp only [hneg, decide_true, if_true]
  rw [show (0 : Int) - (Int.gcd n d : Int) = -(Int.gcd n d : Int) by omega, yka (by omega) (by omega), key _ (by omega)]
 simp only [hneg, decide_false, Bool.false_eq_true, if_false]
 rw [key _ (by omega)]
def addQ (a b : Rt) : Option Rt := lowQ (a.1 * b.2 + b.1 * a.2) (a.2 * b.2)
def subQ (a b : Rt) : Option Rt := lowQ (a.1 * b.2 - b.1 * a.2) (a.2 * b.2)
def mulQ (a b : Rt) : Option Rt := lowQ (a.1 * b.1) (a.2 * b.2)
def divQ (a b : Rt) : Option Rt := if b.1 = 0 then none else lowQ (a.1 * b.2) (a.2 * b.1)
theorem yhl {a b r : Rt} (h : addQ a b = some r) : isRat r = true := ypt h
theorem yfo {a b r : Rt} (h : subQ a b = some r) : isRat r = true := ypt h
theorem yzb1 {a b r : Rt} (h : mulQ a b = some r) : isRat r = true := ypt h
theorem yxx {a b r : Rt} (h : divQ a b = some r) : isRat r = true := by
 unfold divQ at h
 split at h
 ·cases h
 exact ypt h
structure RB (a b : Rt) : Prop where
 m1 : -1000000000000000000 ≤ a.1 * b.2 ∧ a.1 * b.2 ≤ 1000000000000000000
 m2 : -1000000000000000000 ≤ b.1 * a.2 ∧ b.1 * a.2 ≤ 1000000000000000000
 m3 : -1000000000000000000 ≤ a.2 * b.2 ∧ a.2 * b.2 ≤ 1000000000000000000
 m4 : -1000000000000000000 ≤ a.1 * b.1 ∧ a.1 * b.1 ≤ 1000000000000000000
 ne : a.2 * b.2 ≠ 0
 m5 : -1000000000000000000 ≤ a.2 * b.1 ∧ a.2 * b.1 ≤ 1000000000000000000
theorem rb {a b : Rt} (ha : isRat a = true) (hb : isRat b = true) : RB a b := by
 obtain ⟨a1, a2, a3, a4, _⟩ := isRat_iff.1 ha
 obtain ⟨b1, b2, b3, b4, _⟩ := isRat_iff.1 hb
 exact ⟨ymk a3 a4 (by omega) b2, ymk b3 b4 (by omega) a2, ymk (by omega) a2 (by omega) b2, ymk a3 a4 b3 b4, Int.mul_ne_zero (by omega) (by omega), ymk (by omega) a2 b3 b4⟩
section spec
variable {a b : Rt} (ha : isRat a = true) (hb : isRat b = true)
include ha hb
theorem yng : yvc a b = some (unO (addQ a b)) := by
 obtain ⟨m1, m2, m3, m4, ne, m5⟩ := rb ha hb
 unfold yvc addQ
 rw [yka (n := a.1 * b.2) (by omega) (by omega), yka (n := b.1 * a.2) (by omega) (by omega), yka (n := a.2 * b.2) (by omega) (by omega), yka (by omega) (by omega), ymd _ _ ne (by omega) (by omega) (by omega) (by omega)]
 rfl
theorem yjf : ywg a b = some (unO (subQ a b)) := by
 obtain ⟨m1, m2, m3, m4, ne, m5⟩ := rb ha hb
 unfold ywg subQ
 rw [yka (n := a.1 * b.2) (by omega) (by omega), yka (n := b.1 * a.2) (by omega) (by omega), yka (n := a.2 * b.2) (by omega) (by omega), yka (by omega) (by omega), ymd _ _ ne (by omega) (by omega) (by omega) (by omega)]
 rfl
theorem yfa1 : yrl a b = some (unO (mulQ a b)) := by
 obtain ⟨m1, m2, m3, m4, ne, m5⟩ := rb ha hb
 unfold yrl mulQ
 rw [yka (n := a.1 * b.1) (by omega) (by omega), yka (n := a.2 * b.2) (by omega) (by omega), ymd _ _ ne (by omega) (by omega) (by omega) (by omega)]
 rfl
theorem ybu : ypn a b = some (unO (divQ a b)) := by
 obtain ⟨m1, m2, m3, m4, ne, m5⟩ := rb ha hb
 obtain ⟨a1, _⟩ := isRat_iff.1 ha
 unfold ypn divQ
 by_cases h : b.1 = 0
 ·simp [h, unO]
 have h' : (b.1 == 0) = false := by simpa using h
 simp only [h', Bool.false_eq_true, if_false, h]
 rw [yka (n := a.1 * b.2) (by omega) (by omega), yka (n := a.2 * b.1) (by omega) (by omega), ymd _ _ (Int.mul_ne_zero (by omega) h) (by omega) (by omega) (by omega) (by omega)]
 rfl
end spec
def cK (bad : Bool) : Option Rt → Rt × Bool
 | some r => (r, bad)
 | none => ((0, 1), true)
theorem ygo (bad : Bool) (o : Option Rt) : yme bad (unO o).1 (unO o).2 = some (cK bad o) := by
 cases o <;> simp [yme, unO, cK, yeq]
theorem ycs1 {bad : Bool} {o : Option Rt} (h : ∀ r, o = some r → isRat r = true) : isRat (cK bad o).1 = true := by
 cases o with
 | some r => exact h r rfl
 | none => exact (by decide : isRat (0, 1) = true)
theorem yyx : isRat (1, 1) = true := by decide
theorem yav {a : Rt} (h : isRat a = true) : isRat (0 - a.1, a.2) = true := by
 obtain ⟨h1, h2, h3, h4, h5⟩ := isRat_iff.1 h
 refine isRat_iff.2 ⟨h1, h2, by show -1000000000 ≤ 0 - a.1; omega, by show 0 - a.1 ≤ _; omega, ?_⟩
 show Int.gcd (0 - a.1) a.2 = 1
 rw [Int.zero_sub, Int.neg_gcd]; exact h5
section impl
variable {a b : Rt} (bad : Bool) (ha : isRat a = true) (hb : isRat b = true)
include ha hb
theorem yms : ymi a b = some (unO (addQ a b)) := by
 rw [yrq, ha, hb]
 simp only [Bool.and_self, if_true]
 rw [yls]; rfl
theorem yns : yed a b = some (unO (subQ a b)) := by
 obtain ⟨b1, b2, b3, b4, _⟩ := isRat_iff.1 hb
 unfold yed ynl
 rw [yka (by omega) (by omega), Option.bind_some, yms ha (yav hb), Option.bind_some]
 congr 2
 unfold addQ subQ
 simp only
 congr 1
 rw [Int.sub_mul]; omega
theorem yos : ytf a b = some (unO (mulQ a b)) := by
 obtain ⟨m1, m2, m3, m4, ne, m5⟩ := rb ha hb
 unfold ytf mulQ
 rw [ymm _ (by simp)]
 simp only [Option.bind_some, List.all_cons, List.all_nil, Bool.and_true, ha, hb, Bool.and_self, Bool.not_true, Bool.false_eq_true, if_false]
 rw [yka (n := a.1 * b.1) (by omega) (by omega), yka (n := a.2 * b.2) (by omega) (by omega), yeo _ _ ne (by omega) (by omega) (by omega) (by omega), yls]
 rfl
theorem ypu : yzh a b = some (unO (divQ a b)) := by
 obtain ⟨m1, m2, m3, m4, ne, m5⟩ := rb ha hb
 obtain ⟨a1, _⟩ := isRat_iff.1 ha
 unfold yzh divQ
 rw [ymm _ (by simp)]
 simp only [Option.bind_some, List.all_cons, List.all_nil, Bool.and_true, ha, hb, Bool.and_self, Bool.not_true, Bool.false_or]
 by_cases h : b.1 = 0
 ·simp [h, unO]
 have h' : (b.1 == 0) = false := by simpa using h
 simp only [h', Bool.false_eq_true, if_false, h]
 rw [yka (n := a.1 * b.2) (by omega) (by omega), yka (n := a.2 * b.1) (by omega) (by omega), yeo _ _ (Int.mul_ne_zero (by omega) h) (by omega) (by omega) (by omega) (by omega), yls]
 rfl
theorem ygn : yne bad a b = some (cK bad (addQ a b)) := by
 unfold yne; rw [yms ha hb, Option.bind_some, ygo]; rfl
theorem yqi : ygc bad a b = some (cK bad (subQ a b)) := by
 unfold ygc; rw [yns ha hb, Option.bind_some, ygo]; rfl
theorem yfe1 : yhk bad a b = some (cK bad (mulQ a b)) := by
 unfold yhk; rw [yos ha hb, Option.bind_some, ygo]; rfl
theorem yax : yti bad a b = some (cK bad (divQ a b)) := by
 unfold yti; rw [ypu ha hb, Option.bind_some, ygo]; rfl
end impl
def absR (r : Rt) : Rt := ((r.1.natAbs : Int), r.2)
def distQ (a b : Rt) : Option Rt := if less a b then subQ b a else subQ a b
theorem ynm1 {n d : Int} (hd : 0 < d) : lowQ (-n) d = (lowQ n d).map fun r => (-r.1, r.2) := by
 have hn : ¬ d < 0 := by omega
 have e : isRat (Int.tdiv (-n) (Int.gcd n d : Int), Int.tdiv d (Int.gcd n d : Int)) = isRat (Int.tdiv n (Int.gcd n d : Int), Int.tdiv d (Int.gcd n d : Int)) := by
  rw [Int.neg_tdiv]; cases h : isRat (Int.tdiv n (Int.gcd n d : Int), Int.tdiv d (Int.gcd n d : Int))
  ·cases h2 : isRat (-Int.tdiv n (Int.gcd n d : Int), Int.tdiv d (Int.gcd n d : Int))
   ·rfl
   have := yav h2
   simp only [Int.zero_sub, Int.neg_neg] at this; rw [h] at this; cases this
  have := yav h
  simp only [Int.zero_sub] at this; exact this
 unfold lowQ lowest
 simp only [Int.neg_gcd, if_neg hn, e]
 cases isRat (Int.tdiv n (Int.gcd n d : Int), Int.tdiv d (Int.gcd n d : Int))
 ·rfl
 simp [Int.neg_tdiv]
theorem yga1 {a b : Rt} (ha : isRat a = true) (hb : isRat b = true) : 0 < a.2 * b.2 := Int.mul_pos (by have := (isRat_iff.1 ha).1; omega) (by have := (isRat_iff.1 hb).1; omega)
end Go.PV

set_option linter.all false
namespace Go.PV
theorem ypg1 {a b : Int × Int} (hl : less a b = true) : less b a = false := by
 simp only [less, decide_eq_true_eq, decide_eq_false_iff_not] at hl ⊢
 omega
theorem yge1 {α : Type} (p : Pt) (f : Bool → Option α) : ((yuj p.1).bind fun v16 =>
  (if (!v16) = true then
    some true
   else
    (yxf p.2).bind fun v17 =>
    if (!v17) = true then
     some true
    else
     if (decide (p.2.2 > 100)) = true then
      some true
     else
      (yyi p.2.1 (w64 ((-5) * p.2.2)) (w64 (5 * p.2.2))).bind fun v18 =>
      some (!v18)).bind f) = f (!goodPt p) := by
 unfold goodPt
 simp only [ykw, ybh, Option.bind_some]
 cases h1 : coord p.1
 ·simp
 cases h : isRat p.2
 ·simp
 obtain ⟨h2, h3, h4, h5, _⟩ := isRat_iff.1 h
 by_cases h6 : p.2.2 > 100
 ·have : ¬ p.2.2 ≤ 100 := by omega
  simp [h6, this]
 have h7 : p.2.2 ≤ 100 := by omega
 rw [yka (by omega) (by omega), yka (by omega) (by omega)]
 simp [h6, h7, yki]
theorem yrv (xs : List Pt) (hl : xs.length ≤ 4611686018427387904) :
  ∃ y, loopO (ydj xs) 0 = some y ∧ ((y = .inl false ∧ ¬ (xs.all goodPt = true ∧ steps xs xs.length)) ∨ (y = .inr () ∧ xs.all goodPt = true ∧ steps xs xs.length)) := by
 refine ygr (fun x => ∃ i : Nat, x = (i : Int) ∧ i ≤ xs.length ∧ (∀ j p, j < i → xs[j]? = some p → goodPt p = true) ∧ steps xs i) (fun x => xs.length - x.toNat) (fun (y : Bool ⊕ Unit) => (y = .inl false ∧ ¬ (xs.all goodPt = true ∧ steps xs xs.length)) ∨ (y = .inr () ∧ xs.all goodPt = true ∧ steps xs xs.length)) ?_ 0 ⟨0, rfl, by omega, fun j p h => by omega, fun i a b h1 h2 => by omega⟩
 rintro _ ⟨i, rfl, hi, hg, hs⟩
 by_cases hlt : i < xs.length
 ·have hx := yhs hlt
  obtain ⟨p, hp⟩ : ∃ p, xs[i]? = some p := ⟨xs[i], List.getElem?_eq_getElem hlt⟩
  unfold ydj; simp only [show ((i : Int) < (xs.length : Int)) from by omega, decide_true, if_true, ylm, hp, Option.bind_some]; rw [yge1]; cases hgp : goodPt p
  ·refine .inr ⟨.inl false, by simp, .inl ⟨rfl, fun h => ?_⟩⟩
   have := List.all_eq_true.1 h.1 p (List.mem_of_getElem? hp)
   rw [hgp] at this; cases this
  simp only [Bool.not_true, Bool.false_eq_true, if_false]; have hg' : ∀ j q, j < i + 1 → xs[j]? = some q → goodPt q = true := fun j q h1 h2 => by
   by_cases hj : j = i
   ·subst hj; rw [hp] at h2; cases h2; exact hgp
   exact hg j q (by omega) h2
  by_cases hi0 : i = 0
  ·subst hi0
   refine .inl ⟨((0 + 1 : Nat) : Int), ?_, ⟨0 + 1, rfl, by omega, hg', fun i a b h1 h2 => by omega⟩, by simp; omega⟩
   simp [ywe (show 0 < 9223372036854775807 by omega)]
   rfl
  have hpos : ((i : Int) > 0) := by omega
  have hw : w64 ((i : Int) - 1) = ((i - 1 : Nat) : Int) := by rw [yka (by omega) (by omega)]; omega
  have hlt2 : i - 1 < xs.length := by omega
  obtain ⟨q, hq⟩ : ∃ q, xs[i - 1]? = some q := ⟨xs[i - 1], List.getElem?_eq_getElem hlt2⟩
  have hgq := hg (i - 1) q (by omega) hq
  obtain ⟨p1, p2⟩ := yuk hgp; obtain ⟨q1, q2⟩ := yuk hgq; simp only [hpos, decide_true, if_true, hw, ylm, hq, Option.bind_some, yfc q.1 p.1 (ypc q1) (ypc p1), yfc q.2 p.2 (ypc q2) (ypc p2), ybs1, yxp1]
  by_cases hst : stepPt q p = true
  ·have h5 : less q.1 p.1 = true ∧ less p.2 q.2 = false := by simpa [stepPt] using hst
   refine .inl ⟨((i + 1 : Nat) : Int), ?_, ⟨i + 1, rfl, by omega, hg', yda1 hs hq hp hst⟩, by simp; omega⟩
   simp [h5.1, h5.2, ywe (show i < 9223372036854775807 by omega)]
  refine .inr ⟨.inl false, ?_, .inl ⟨rfl, fun h => hst (h.2 i q p (by omega) hlt hq hp)⟩⟩
  cases h6 : less q.1 p.1
  ·simp
  cases h7 : less p.2 q.2
  ·simp [stepPt, h6, h7] at hst
  simp
 have he : i = xs.length := by omega
 subst he
 refine .inr ⟨.inr (), by simp [ydj], .inr ⟨rfl, ?_, hs⟩⟩
 rw [List.all_eq_true]
 intro p hp
 obtain ⟨j, hj, rfl⟩ := List.mem_iff_getElem.1 hp
 exact hg j _ hj (List.getElem?_eq_getElem hj)
theorem ysv (xs : List Pt) (hl : xs.length ≤ 4611686018427387904) (h2 : 1 ≤ xs.length) (hall : xs.all goodPt = true) :
  ∃ y, loopO (ygj xs) 1 = some y ∧ ((y = .inl false ∧ ¬ steps xs xs.length) ∨ (y = .inr () ∧ steps xs xs.length)) := by
 refine ygr (fun x => ∃ i : Nat, x = (i : Int) ∧ 1 ≤ i ∧ i ≤ xs.length ∧ steps xs i) (fun x => xs.length - x.toNat) (fun (y : Bool ⊕ Unit) => (y = .inl false ∧ ¬ steps xs xs.length) ∨ (y = .inr () ∧ steps xs xs.length)) ?_ 1 ⟨1, rfl, by omega, by omega, fun i a b h1 h2 => by omega⟩
 rintro _ ⟨i, rfl, hi0, hi, hs⟩
 by_cases hlt : i < xs.length
 ·obtain ⟨p, hp⟩ : ∃ p, xs[i]? = some p := ⟨xs[i], List.getElem?_eq_getElem hlt⟩
  have hgp := List.all_eq_true.1 hall p (List.mem_of_getElem? hp)
  have hw : w64 ((i : Int) - 1) = ((i - 1 : Nat) : Int) := by rw [yka (by omega) (by omega)]; omega
  have hlt2 : i - 1 < xs.length := by omega
  obtain ⟨q, hq⟩ : ∃ q, xs[i - 1]? = some q := ⟨xs[i - 1], List.getElem?_eq_getElem hlt2⟩
  have hgq := List.all_eq_true.1 hall q (List.mem_of_getElem? hq)
  obtain ⟨p1, p2⟩ := yuk hgp; obtain ⟨q1, q2⟩ := yuk hgq; unfold ygj; simp only [show ((i : Int) < (xs.length : Int)) from by omega, decide_true, if_true, hw, ylm, hp, hq, Option.bind_some, ynf q.1 p.1 (ypc q1) (ypc p1), ynf p.2 q.2 (ypc p2) (ypc q2)]
  by_cases hst : stepPt q p = true
  ·have h5 : less q.1 p.1 = true ∧ less p.2 q.2 = false := by simpa [stepPt] using hst
   refine .inl ⟨((i + 1 : Nat) : Int), ?_, ⟨i + 1, rfl, by omega, by omega, yda1 hs hq hp hst⟩, by simp; omega⟩
   simp [h5.1, h5.2, ywe (show i < 9223372036854775807 by omega)]
  refine .inr ⟨.inl false, ?_, .inl ⟨rfl, fun h => hst (h i q p (by omega) hlt hq hp)⟩⟩
  cases h6 : less q.1 p.1
  ·simp
  cases h7 : less p.2 q.2
  ·simp [stepPt, h6, h7] at hst
  simp
 have he : i = xs.length := by omega
 subst he
 exact .inr ⟨.inr (), by simp [ygj], .inr ⟨rfl, hs⟩⟩
theorem yom1 {r : Int × Int} (h : isRat r = true) : (r.1 * 1 == 0 * r.2) = (r == (0, 1)) := by
 obtain ⟨h1, h2, h3, h4, h5⟩ := isRat_iff.1 h
 obtain ⟨n, d⟩ := r
 simp only [Int.mul_one, Int.zero_mul]
 by_cases hn : n = 0
 ·subst hn
  have h6 : d.natAbs = 1 := by simpa using h5
  have h7 : d = 1 := by omega
  subst h7; rfl
 have e1 : (n == 0) = false := by simpa using hn
 have e2 : ((n, d) == ((0, 1) : Int × Int)) = false := by simp [hn]
 rw [e1, e2]
theorem yzp1 {r : Int × Int} (h : isRat r = true) : (r.1 * 1 == 1 * r.2) = (r == (1, 1)) := by
 obtain ⟨h1, h2, h3, h4, h5⟩ := isRat_iff.1 h
 obtain ⟨n, d⟩ := r
 simp only [Int.mul_one, Int.one_mul]
 by_cases hn : n = d
 ·subst hn
  have h6 : n.natAbs = 1 := by simpa using h5
  have h7 : n = 1 := by omega
  subst h7; rfl
 by_cases h6 : n = 1
 ·subst h6; have : ¬ d = 1 := fun e => hn e.symm
  have e1 : ((1 : Int) == d) = false := by simpa using hn
  have e2 : (((1 : Int), d) == ((1, 1) : Int × Int)) = false := by simp [this]
  rw [e1, e2]
 have e1 : (n == d) = false := by simpa using hn
 have e2 : ((n, d) == ((1, 1) : Int × Int)) = false := by simp [h6]
 rw [e1, e2]
theorem yzx (a b : Int × Int) : ((a.1 == b.1) && (a.2 == b.2)) = (a == b) := by
 obtain ⟨a1, a2⟩ := a; obtain ⟨b1, b2⟩ := b; rfl
theorem yqg1 (xs : List Pt) (hl : 2 ≤ xs.length) (hm : xs.length ≤ 12) (hall : xs.all goodPt = true) : ycj xs () = some (ends xs) ∧ yfj xs () = some (ends xs) := by
 have hlt : 0 < xs.length := by omega
 have hlt2 : xs.length - 1 < xs.length := by omega
 obtain ⟨a, ha⟩ : ∃ a, xs[0]? = some a := ⟨xs[0], List.getElem?_eq_getElem hlt⟩
 obtain ⟨b, hb⟩ : ∃ b, xs[xs.length - 1]? = some b := ⟨xs[xs.length - 1], List.getElem?_eq_getElem hlt2⟩
 have hw : w64 ((xs.length : Int) - 1) = ((xs.length - 1 : Nat) : Int) := by rw [yka (by omega) (by omega)]; omega
 have hga := yuk (List.all_eq_true.1 hall a (List.mem_of_getElem? ha))
 have hgb := yuk (List.all_eq_true.1 hall b (List.mem_of_getElem? hb))
 obtain ⟨h2, h3, h4, h5, _⟩ := isRat_iff.1 hga.2
 have t0 : tame (0, 1) := ⟨by decide, by decide, by decide, by decide⟩
 have t1 : tame (1, 1) := ⟨by decide, by decide, by decide, by decide⟩
 have z0 : idxO xs 0 = some a := by rw [show (0 : Int) = ((0 : Nat) : Int) from rfl, ylm, ha]
 have e1 : w64 (1 * a.2.2) = a.2.2 := by rw [yka (by omega) (by omega)]; omega
 have e2 : w64 (a.2.1 + a.2.2) = a.2.1 + a.2.2 := yka (by omega) (by omega)
 unfold ycj yfj ends
 simp only [z0, hw, ylm, ha, hb, Option.bind_some, yjb, yeq, yxk, yfb, e1, e2, yfc a.1 (0, 1) (ypc hga.1) t0, yfc b.1 (1, 1) (ypc hgb.1) t1, ylm1, yom1 hga.1, yzp1 hgb.1, yzx a.1 (0, 1), yzx b.1 (1, 1), yzx b.2 (a.2.1 + a.2.2, a.2.2)]
 constructor <;> cases (a.1 == (0, 1)) <;> cases (b.1 == (1, 1)) <;> simp
theorem yay (xs : List Pt) (hl : xs.length ≤ 4611686018427387904) : yzc xs = some (isLift xs) := by
 unfold yzc isLift
 rw [yki, Option.bind_some]
 cases h : inB 2 12 xs.length
 ·simp
 obtain ⟨h1, h2⟩ := inB_iff.1 h
 obtain ⟨y, h3, h4⟩ := yrv xs hl
 simp only [Bool.not_true, Bool.false_eq_true, if_false, h3, Option.bind_some, Bool.true_and]
 rcases h4 with ⟨rfl, h4⟩ | ⟨rfl, h4⟩
 ·have hd : ∀ {p : Prop} (inst : Decidable p), ¬ p → decide p = false := fun _ h => decide_eq_false h
  rw [hd _ h4]; simp
 simp only [Sum.elim_inr, (yqg1 xs (by omega) (by omega) h4.1).1, h4, and_self, decide_true, Bool.true_and]
theorem yby (xs : List Pt) (hl : xs.length ≤ 4611686018427387904) : ync xs = some (isLift xs) := by
 unfold ync isLift
 rw [yis, Option.bind_some]
 cases h : inB 2 12 xs.length
 ·simp
 obtain ⟨h1, h2⟩ := inB_iff.1 h
 rw [ygf xs (fun x0 => ysi x0) _ yqv hl]
 cases hall : xs.all goodPt
 ·have : (xs.any fun p => !goodPt p) = true := by rw [List.any_eq_not_all_not]; simp [hall]
  simp [this]
 have hany : (xs.any fun p => !goodPt p) = false := by rw [List.any_eq_not_all_not]; simp [hall]
 obtain ⟨y, h3, h4⟩ := ysv xs hl (by omega) hall
 simp only [Bool.not_true, Bool.false_eq_true, if_false, hany, h3, Option.bind_some, Bool.true_and]
 rcases h4 with ⟨rfl, h4⟩ | ⟨rfl, h4⟩
 ·have hd : ∀ {p : Prop} (inst : Decidable p), ¬ p → decide p = false := fun _ h => decide_eq_false h
  rw [hd _ (fun h => h4 h.2)]; simp
 simp only [Sum.elim_inr, (yqg1 xs (by omega) (by omega) hall).2, h4, and_self, decide_true, Bool.true_and]
end Go.PV

/-
 Plain laws: maps of the interval.
 Conditions: none.
-/
set_option linter.all false
namespace Go.PV
section
variable {α β : Type}
end
def isMapT (n : Nat) (p : Nat → Pt) : Prop := (∀ i, i < n → coord (p i).1 = true ∧ coord (p i).2 = true) ∧ (∀ i, 0 < i → i < n → less (p (i - 1)).1 (p i).1 = true) ∧ (p 0).1 = (0, 1) ∧ (p (n - 1)).1 = (1, 1)
theorem ytv {r : Rt} (h : coord r = true) : tame r := ypc (yvd h)
end Go.PV

/-
 Plain laws: the variation of a map.
 Conditions: none.
-/
set_option linter.all false
namespace Go.PV
def sumD (r : Nat → Rt) : Nat → Option Rt
 | 0 => some (0, 1)
 | k + 1 => (sumD r k).bind fun s => (distQ (r k) (r (k + 1))).bind fun d => addQ s d
end Go.PV

/-
 Plain laws: slopes and laps of a map.
 Conditions: none.
-/
set_option linter.all false
namespace Go.PV
structure LowOk (n d : Int) (r : Rt) : Prop where
 eq : lowQ n d = some r
 rat : isRat r = true
 num : r.1.natAbs ≤ n.natAbs
 den : 1 ≤ r.2 ∧ r.2 ≤ d
 pos : 0 < n → 0 < r.1
 neg : n < 0 → r.1 < 0
 zer : n = 0 → r.1 = 0
theorem yil {n d : Int} (h1 : 0 ≤ n) (h2 : n ≤ 1000000000) (h3 : 1 ≤ d) (h4 : d ≤ 1000000000) : ∃ r, LowOk n d r := by
 have hg : 0 < Int.gcd n d := Int.gcd_pos_of_ne_zero_right _ (by omega)
 have hdn : ¬ d < 0 := by omega
 have hr := yxb1 h1 h2 h3 h4
 have e : lowest n d = if isRat (Int.tdiv n (Int.gcd n d : Int), Int.tdiv d (Int.gcd n d : Int)) = true then ((Int.tdiv n (Int.gcd n d : Int), Int.tdiv d (Int.gcd n d : Int)), true) else ((0, 0), false) := by
  unfold lowest; simp only [if_neg hdn]
 have hrat : isRat (Int.tdiv n (Int.gcd n d : Int), Int.tdiv d (Int.gcd n d : Int)) = true := by
  refine Classical.byContradiction fun hno => ?_
  rw [e, if_neg hno] at hr; exact absurd hr (by decide)
 rw [if_pos hrat] at e
 have e1 : Int.tdiv n (Int.gcd n d : Int) = n / (Int.gcd n d : Int) := Int.tdiv_eq_ediv_of_nonneg h1
 have e2 : Int.tdiv d (Int.gcd n d : Int) = d / (Int.gcd n d : Int) := Int.tdiv_eq_ediv_of_nonneg (by omega)
 have hgn : 0 < n → (Int.gcd n d : Int) ≤ n := fun h => by
  have := Nat.gcd_le_left d.natAbs (show 0 < n.natAbs by omega)
  have e : Int.gcd n d = Nat.gcd n.natAbs d.natAbs := rfl
  omega
 refine ⟨_, ⟨by unfold lowQ; rw [e]; rfl, hrat, ?_, ⟨(isRat_iff.1 hrat).1, ?_⟩, fun h => ?_, fun h => by omega, fun h => by subst h; simp⟩⟩
 ·exact ygp _ _
 ·show Int.tdiv d _ ≤ d
  have := ygp d (Int.gcd n d : Int)
  have h5 := (isRat_iff.1 hrat).1
  simp only at h5
  omega
 show 0 < Int.tdiv n _
 rw [e1]
 exact Int.ediv_pos_of_pos_of_dvd h (by omega) (Int.gcd_dvd_left ..)
theorem ybd1 {n d : Int} (h1 : -1000000000 ≤ n) (h2 : n ≤ 1000000000) (h3 : 1 ≤ d) (h4 : d ≤ 1000000000) : ∃ r, LowOk n d r := by
 by_cases hn : 0 ≤ n
 ·exact yil hn h2 h3 h4
 obtain ⟨r, h⟩ := yil (n := -n) (d := d) (by omega) (by omega) h3 h4
 have e := ynm1 (n := -n) (d := d) (by omega)
 rw [Int.neg_neg, h.eq] at e
 have hr := yav h.rat
 have := h.pos (by omega)
 have := h.num
 exact ⟨(-r.1, r.2), ⟨e, by rw [Int.zero_sub] at hr; exact hr, by show (-r.1).natAbs ≤ _; omega, h.den, fun h => by omega, fun h => by show -r.1 < 0; omega, fun h => by omega⟩⟩
theorem yqt {r : Rt} (h : coord r = true) : 0 ≤ r.1 ∧ r.1 ≤ r.2 ∧ 1 ≤ r.2 ∧ r.2 ≤ 100 := by
 simp only [coord, isUnit, Bool.and_eq_true, inB_iff, decide_eq_true_eq] at h
 have := isRat_iff.1 h.1.1
 omega
theorem yqu {a b A B : Int} (h1 : -A ≤ a) (h2 : a ≤ A) (h3 : -B ≤ b) (h4 : b ≤ B) (hA : 0 ≤ A) (hB : 0 ≤ B) : -(A * B) ≤ a * b ∧ a * b ≤ A * B := by
 have h5 : (a * b).natAbs ≤ A.natAbs * B.natAbs := by rw [Int.natAbs_mul]; exact Nat.mul_le_mul (by omega) (by omega)
 have h6 : ((A.natAbs * B.natAbs : Nat) : Int) = A * B := by rw [Int.natCast_mul]; rw [Int.natAbs_of_nonneg hA, Int.natAbs_of_nonneg hB]
 omega
def small (r : Rt) : Prop := isRat r = true ∧ -500 ≤ r.1 ∧ r.1 ≤ 500 ∧ 1 ≤ r.2 ∧ r.2 ≤ 100
theorem yrt {r : Rt} (h : coord r = true) : small r := by
 have := yqt h
 exact ⟨yvd h, by omega, by omega, by omega, by omega⟩
theorem ycy {a b : Rt} (ha : small a) (hb : small b) : ∃ r, LowOk (a.1 * b.2 - b.1 * a.2) (a.2 * b.2) r ∧ subQ a b = some r ∧ r.1.natAbs ≤ 100000 ∧ r.2 ≤ 10000 := by
 obtain ⟨_, a1, a2, a3, a4⟩ := ha
 obtain ⟨_, b1, b2, b3, b4⟩ := hb
 have m1 := yqu (a := a.1) (b := b.2) (A := 500) (B := 100) (by omega) (by omega) (by omega) (by omega) (by omega) (by omega)
 have m2 := yqu (a := b.1) (b := a.2) (A := 500) (B := 100) (by omega) (by omega) (by omega) (by omega) (by omega) (by omega)
 have m3 := yqu (a := a.2) (b := b.2) (A := 100) (B := 100) (by omega) (by omega) (by omega) (by omega) (by omega) (by omega)
 have p3 : 0 < a.2 * b.2 := Int.mul_pos (by omega) (by omega)
 obtain ⟨r, hr⟩ := ybd1 (n := a.1 * b.2 - b.1 * a.2) (d := a.2 * b.2) (by omega) (by omega) (by omega) (by omega)
 have h5 := hr.num
 have h6 := hr.den
 exact ⟨r, hr, hr.eq, by omega, by omega⟩
def slopeQ (p q : Pt) : Rt := (((subQ q.2 p.2).bind fun u => (subQ q.1 p.1).bind fun v => divQ u v)).getD (0, 0)
structure SlopeOk (p q : Pt) (u v : Rt) : Prop where
 up : subQ q.2 p.2 = some u
 far : subQ q.1 p.1 = some v
 ru : isRat u = true
 rv : isRat v = true
 div : divQ u v = some (slopeQ p q)
 rs : isRat (slopeQ p q) = true
 ub : u.1.natAbs ≤ 100000 ∧ u.2 ≤ 10000
 vb : v.1.natAbs ≤ 10000 ∧ v.2 ≤ 10000
 vp : 0 < v.1
 sg : (0 < (slopeQ p q).1 ↔ 0 < u.1) ∧ ((slopeQ p q).1 < 0 ↔ u.1 < 0)
theorem ypm1 {p q : Pt} (hp1 : coord p.1 = true) (hp2 : small p.2) (hq1 : coord q.1 = true) (hq2 : small q.2) (hl : less p.1 q.1 = true) : ∃ u v, SlopeOk p q u v := by
 obtain ⟨u, hu, e1, u1, u2⟩ := ycy hq2 hp2
 obtain ⟨v, hv, e2, v1', v2⟩ := ycy (yrt hq1) (yrt hp1)
 have v1 : v.1.natAbs ≤ 10000 := by
  have h1 := hv.num; obtain ⟨a1, a2, a3, a4⟩ := yqt hq1; obtain ⟨b1, b2, b3, b4⟩ := yqt hp1; have m1 := yqu (a := q.1.1) (b := p.1.2) (A := 100) (B := 100) (by omega) (by omega) (by omega) (by omega) (by omega) (by omega)
  have m2 := yqu (a := p.1.1) (b := q.1.2) (A := 100) (B := 100) (by omega) (by omega) (by omega) (by omega) (by omega) (by omega)
  have p1 : 0 ≤ q.1.1 * p.1.2 := Int.mul_nonneg a1 (by omega)
  have p2 : 0 ≤ p.1.1 * q.1.2 := Int.mul_nonneg b1 (by omega)
  omega
 have hlt : p.1.1 * q.1.2 < q.1.1 * p.1.2 := by simpa [less] using hl
 have hvp := hv.pos (by omega)
 have hud := hu.den
 have hvd := hv.den
 have m1 := yqu (a := u.1) (b := v.2) (A := 100000) (B := 10000) (by omega) (by omega) (by omega) (by omega) (by omega) (by omega)
 have m2 := yqu (a := u.2) (b := v.1) (A := 10000) (B := 10000) (by omega) (by omega) (by omega) (by omega) (by omega) (by omega)
 have m3 : 0 < u.2 * v.1 := Int.mul_pos (by omega) hvp
 obtain ⟨s, hs⟩ := ybd1 (n := u.1 * v.2) (d := u.2 * v.1) (by omega) (by omega) (by omega) (by omega)
 have e3 : divQ u v = some s := by unfold divQ; rw [if_neg (by omega)]; exact hs.eq
 have e4 : slopeQ p q = s := by unfold slopeQ; rw [e1, e2]; simp [e3]
 refine ⟨u, v, ⟨e1, e2, hu.rat, hv.rat, by rw [e4]; exact e3, by rw [e4]; exact hs.rat, ⟨u1, u2⟩, ⟨v1, v2⟩, hvp, ?_⟩⟩
 rw [e4]
 have hv2 : 0 < v.2 := by omega
 rcases Int.lt_trichotomy u.1 0 with h | h | h
 ·have h1 : u.1 * v.2 < 0 := Int.mul_neg_of_neg_of_pos h hv2
  have := hs.neg h1
  constructor <;> constructor <;> omega
 ·have h1 : u.1 * v.2 = 0 := by rw [h, Int.zero_mul]
  have := hs.zer h1
  constructor <;> constructor <;> omega
 have h1 : 0 < u.1 * v.2 := Int.mul_pos h hv2
 have := hs.pos h1
 constructor <;> constructor <;> omega
theorem ycu {p q : Pt} {u v : Rt} (hp1 : coord p.1 = true) (hp2 : small p.2) (hq1 : coord q.1 = true) (hq2 : small q.2) (h : SlopeOk p q u v) (bad : Bool) : yzf bad p q = some (slopeQ p q, bad) := by
 unfold yzf
 rw [yqi bad hq2.1 hp2.1, Option.bind_some, h.up]
 simp only [cK]
 rw [yqi bad (yvd hq1) (yvd hp1), Option.bind_some, h.far]
 simp only [cK]
 rw [yax bad h.ru h.rv, Option.bind_some, h.div]
 rfl
theorem ytq {p q : Pt} {u v : Rt} (hp1 : coord p.1 = true) (hp2 : small p.2) (hq1 : coord q.1 = true) (hq2 : small q.2) (h : SlopeOk p q u v) : yvj p q = some (slopeQ p q) := by
 unfold yvj
 rw [yjf hq2.1 hp2.1, Option.bind_some, h.up]
 simp only [unO]
 rw [yjf (yvd hq1) (yvd hp1), Option.bind_some, h.far]
 simp only [unO]
 rw [ybu h.ru h.rv, Option.bind_some, h.div]
 rfl
section
variable {n : Nat} {p : Nat → Pt}
def slopesT (n : Nat) (p : Nat → Pt) : List Rt := tab (n - 1) fun i => slopeQ (p i) (p (i + 1))
def strictB (n : Nat) (p : Nat → Pt) : Bool := (slopesT n p).all fun s => !(s.1 == 0)
end
end Go.PV

/-
 Plain laws: values of maps and lifts.
 Conditions: none.
-/
set_option linter.all false
namespace Go.PV
structure Curve (n : Nat) (p : Nat → Pt) : Prop where
 lo : 2 ≤ n
 hi : n ≤ 12
 x : ∀ i, i < n → coord (p i).1 = true
 y : ∀ i, i < n → small (p i).2
 up : ∀ i, 0 < i → i < n → less (p (i - 1)).1 (p i).1 = true
 fst : (p 0).1 = (0, 1)
 lst : (p (n - 1)).1 = (1, 1)
def CR (bad : Bool) (o : Option Rt) (v : Rt × Bool) : Prop := isRat v.1 = true ∧ match o with
 | some r => v = (r, bad)
 | none => v.2 = true
theorem ysk1 {bad : Bool} {o : Option Rt} (h : ∀ r, o = some r → isRat r = true) : CR bad o (cK bad o) := by
 refine ⟨ycs1 h, ?_⟩
 cases o <;> rfl
theorem yds1 {o : Option Rt} {v : Rt × Bool} (h : CR true o v) : v.2 = true := by
 obtain ⟨_, h⟩ := h
 cases o with
 | some r => rw [h]
 | none => exact h
theorem ybx {bad : Bool} {o : Option Rt} {v v' : Rt × Bool} {g : Rt → Option Rt} (h : CR bad o v) (h' : CR v.2 (g v.1) v') : CR bad (o.bind g) v' := by
 obtain ⟨h1, h2⟩ := h
 refine ⟨h'.1, ?_⟩
 cases o with
 | some r =>
  simp only at h2
  subst h2; exact h'.2
 | none =>
  simp only at h2
  simp only [Option.bind_none]; have := h'
  rw [h2] at this; exact yds1 this
section
variable {n : Nat} {p : Nat → Pt}
theorem Curve.piece (h : Curve n p) {i : Nat} (hi : i + 1 < n) : ∃ u v, SlopeOk (p i) (p (i + 1)) u v :=
 ypm1 (h.x i (by omega)) (h.y i (by omega)) (h.x (i + 1) hi) (h.y (i + 1) hi) (h.up (i + 1) (by omega) hi)
structure AtJ (n : Nat) (p : Nat → Pt) (x : Rt) (j : Nat) : Prop where
 lt : j < n
 bef : ∀ k, k < j → less (p k).1 x = true
 at' : less (p j).1 x = false
theorem yes1 (h : Curve n p) {x : Rt} (hx : isUnit x = true) : ∃ j, AtJ n p x j := by
 have hr : isRat x = true := by simp only [isUnit, Bool.and_eq_true] at hx; exact hx.1
 have hle : less (p (n - 1)).1 x = false := by
  rw [h.lst]; simp only [isUnit, Bool.and_eq_true, inB_iff] at hx; have := isRat_iff.1 hr
  simp only [less, decide_eq_false_iff_not]; omega
 have : ∀ k, k < n → (∃ j, AtJ n p x j) ∨ ∀ i, i ≤ k → less (p i).1 x = true := by
  intro k; induction k with
  | zero =>
   intro hk; cases h0 : less (p 0).1 x
   ·exact .inl ⟨0, hk, fun k hk => by omega, h0⟩
   exact .inr fun i hi => by have : i = 0 := (by omega); subst this; exact h0
  | succ k ih =>
   intro hk; rcases ih (by omega) with h1 | h1
   ·exact .inl h1
   cases h0 : less (p (k + 1)).1 x
   ·exact .inl ⟨k + 1, hk, fun i hi => h1 i (by omega), h0⟩
   refine .inr fun i hi => ?_
   by_cases hik : i ≤ k
   ·exact h1 i hik
   have : i = k + 1 := by omega
   subst this; exact h0
 have h2 := h.lo
 rcases this (n - 1) (by omega) with h1 | h1
 ·exact h1
 have := h1 (n - 1) (Nat.le_refl _)
 rw [hle] at this; cases this
theorem AtJ.uniq {x : Rt} {j k : Nat} (h : AtJ n p x j) (h' : AtJ n p x k) : j = k := by
 rcases Nat.lt_trichotomy j k with h1 | h1 | h1
 ·have := h'.bef j h1; rw [h.at'] at this; cases this
 ·exact h1
 have := h.bef k h1; rw [h'.at'] at this; cases this
theorem yrg1 (f : Pt → Option Bool) (q : Nat → Bool) (hf : ∀ i, i < n → f (p i) = some (q i)) (j : Nat) (hj : j < n) (hn : n ≤ 1048576) (h1 : ∀ k, k < j → q k = false) (h2 : q j = true) : yfa (tab n p) f = some (j : Int) := by
 have hx := yae (body := yga (tab n p) f) j (fun i => (i : Int)) (.inl (j : Int)) (fun i hi => by
  simp only [yga, yzd, yrb (show i < n by omega), hf i (by omega), h1 i hi, Option.bind_some, show ((i : Int) < (n : Int)) from by omega, decide_true, if_true, ywe (show i < 9223372036854775807 by omega)]
  simp) (by
  simp only [yga, yzd, yrb hj, hf j hj, h2, Option.bind_some, show ((j : Int) < (n : Int)) from by omega, decide_true, if_true])
 unfold yfa
 rw [show (0 : Int) = ((0 : Nat) : Int) from rfl, hx]
 rfl
theorem ymw (h : Curve n p) {x : Rt} (hx : isRat x = true) {j : Nat} (hj : AtJ n p x j) : ypl (tab n p) x = some ((j - 1 : Nat) : Int) := by
 have h1 := h.hi
 have hlt := hj.lt
 unfold ypl
 rw [yrg1 (fun x0 => yhj x0 x) (fun i => !less (p i).1 x) (fun i hi => by simp [yhj, ynf _ _ (ytv (h.x i hi)) (ypc hx)]) j hlt (by omega) (fun k hk => by simp [hj.bef k hk]) (by simp [hj.at'])]
 rw [Option.bind_some, yka (by omega) (by omega)]
 congr 1
 split <;> omega
theorem ynw (h : Curve n p) {x : Rt} (hx : isRat x = true) {j : Nat} (hj : AtJ n p x j) : yql (tab n p) x = some ((j - 1 : Nat) : Int) := by
 have h1 := h.hi
 have h2 := h.lo
 have hlt := hj.lt
 have hx := yae (body := yai (tab n p) x) (j - 1) (fun i => (i : Int)) ((j - 1 : Nat) : Int) (fun i hi => by
  have e2 : w64 ((i : Int) + 2) = ((i + 2 : Nat) : Int) := by rw [yka (by omega) (by omega)]; omega
  simp only [yai, yzd, e2, ywe (show i < 9223372036854775807 by omega), yrb (show i + 1 < n by omega), Option.bind_some, yfc _ _ (ytv (h.x (i + 1) (by omega))) (ypc hx), show (((i + 2 : Nat) : Int) < (n : Int)) from by omega, decide_true, if_true]
  have : decide (cmp (p (i + 1)).1 x < 0) = true := by
   have := hj.bef (i + 1) (by omega)
   simp only [less, decide_eq_true_eq] at this; simp [cmp, this]
  rw [this]; rfl) (by
  have e2 : w64 (((j - 1 : Nat) : Int) + 2) = ((j - 1 + 2 : Nat) : Int) := by rw [yka (by omega) (by omega)]; omega
  simp only [yai, yzd, e2]; by_cases hc : j - 1 + 2 < n
  ·simp only [show (((j - 1 + 2 : Nat) : Int) < (n : Int)) from by omega, decide_true, if_true, ywe (show j - 1 < 9223372036854775807 by omega), yrb (show j - 1 + 1 < n by omega), Option.bind_some, yfc _ _ (ytv (h.x (j - 1 + 1) (by omega))) (ypc hx)]
   have hno : less (p (j - 1 + 1)).1 x = false := by
    by_cases hj0 : j = 0
    ·subst hj0
     -- x is not behind the first point, so not behind the second
     have h3 := hj.at'
     have h4 := h.up 1 (by omega) (by omega)
     rw [h.fst] at h3 h4
     obtain ⟨x1, x2, x3, x4, _⟩ := isRat_iff.1 hx; have c := yqt (h.x 1 (by omega))
     simp only [less, decide_eq_false_iff_not, decide_eq_true_eq] at h3 h4 ⊢; simp only [Nat.zero_sub, Nat.zero_add, Nat.sub_self] at h4 ⊢; have p1 : 0 ≤ (p 1).1.1 * x.2 := Int.mul_nonneg c.1 (by omega)
     have p2 : x.1 * (p 1).1.2 ≤ 0 := Int.mul_nonpos_of_nonpos_of_nonneg (by omega) (by omega)
     omega
    rw [show j - 1 + 1 = j by omega]; exact hj.at'
   have : decide (cmp (p (j - 1 + 1)).1 x < 0) = false := by
    simp only [less, decide_eq_false_iff_not] at hno; simp only [cmp, hno, if_false]; split <;> rfl
   rw [this]; rfl
  simp only [show ¬ (((j - 1 + 2 : Nat) : Int) < (n : Int)) from by omega, decide_false, Bool.false_eq_true, if_false, Option.bind_some])
 unfold yql
 rw [show (0 : Int) = ((0 : Nat) : Int) from rfl, hx]
 rfl
def onQ (p q : Pt) (x : Rt) : Option Rt := (subQ x p.1).bind fun far => (mulQ (slopeQ p q) far).bind fun up => addQ p.2 up
theorem yhj1 (a b : Rt) : mulQ a b = mulQ b a := by unfold mulQ; rw [Int.mul_comm, Int.mul_comm a.2]
theorem yac1 {q : Pt} {s x : Rt} (hq1 : isRat q.1 = true) (hq2 : isRat q.2 = true) (hs : isRat s = true) (hx : isRat x = true) (bad : Bool) : ∃ v, yij bad q s x = some v ∧ CR bad ((subQ x q.1).bind fun far => (mulQ s far).bind fun up => addQ q.2 up) v := by
 have c1 : CR bad (subQ x q.1) (cK bad (subQ x q.1)) := ysk1 fun _ => yfo
 have c2 := ysk1 (bad := (cK bad (subQ x q.1)).2) (o := mulQ s (cK bad (subQ x q.1)).1) fun _ => yzb1
 have c3 := ysk1 (bad := (cK (cK bad (subQ x q.1)).2 (mulQ s (cK bad (subQ x q.1)).1)).2) (o := addQ q.2 (cK (cK bad (subQ x q.1)).2 (mulQ s (cK bad (subQ x q.1)).1)).1) fun _ => yhl
 refine ⟨_, ?_, ybx c1 (ybx (g := fun up => addQ q.2 up) c2 c3)⟩
 unfold yij
 rw [yqi bad hx hq1, Option.bind_some, yfe1 _ hs c1.1, Option.bind_some, ygn _ hq2 c2.1]
 rfl
theorem yha1 (h : Curve n p) {x : Rt} (hx : isRat x = true) {j : Nat} (hj : AtJ n p x j) (bad : Bool) : ∃ v, yag bad (tab n p) x = some v ∧ CR bad (onQ (p (j - 1)) (p (j - 1 + 1)) x) v := by
 have h1 := h.hi
 have h2 := h.lo
 have hlt := hj.lt
 have hj1 : j - 1 + 1 < n := by omega
 obtain ⟨u, v, hs⟩ := h.piece hj1
 obtain ⟨w, e1, e2⟩ := yac1 (q := p (j - 1)) (s := slopeQ (p (j - 1)) (p (j - 1 + 1))) (x := x) (yvd (h.x (j - 1) (by omega))) (h.y (j - 1) (by omega)).1 hs.rs hx bad
 refine ⟨w, ?_, e2⟩
 unfold yag
 rw [ymw h hx hj]
 simp only [Option.bind_some, ywe (show j - 1 < 9223372036854775807 by omega), yrb (show j - 1 < n by omega), yrb hj1, ycu (h.x (j - 1) (by omega)) (h.y (j - 1) (by omega)) (h.x (j - 1 + 1) hj1) (h.y (j - 1 + 1) hj1) hs bad, e1]
theorem yow (s : Rt) : yrl (0, 0) s = some ((0, 0), false) := by
 unfold yrl yyc
 have : w64 (0 * s.2) = 0 := by rw [Int.zero_mul]; rfl
 simp only [this]
 rfl
theorem ybc1 (h : Curve n p) {x : Rt} (hx : isRat x = true) {j : Nat} (hj : AtJ n p x j) : yfq (tab n p) x = some (unO (onQ (p (j - 1)) (p (j - 1 + 1)) x)) := by
 have h1 := h.hi
 have h2 := h.lo
 have hlt := hj.lt
 have hj1 : j - 1 + 1 < n := by omega
 obtain ⟨u, v, hs⟩ := h.piece hj1
 have rx := yvd (h.x (j - 1) (by omega))
 unfold yfq
 rw [ynw h hx hj]
 simp only [Option.bind_some, ywe (show j - 1 < 9223372036854775807 by omega), yrb (show j - 1 < n by omega), yrb hj1, ycv, yjf hx rx, ytq (h.x (j - 1) (by omega)) (h.y (j - 1) (by omega)) (h.x (j - 1 + 1) hj1) (h.y (j - 1 + 1) hj1) hs, onQ]
 cases hsq : subQ x (p (j - 1)).1 with
 | none =>
  simp only [unO, yow, Option.bind_some, Option.bind_none]; rfl
 | some far =>
  have hf := yfo hsq; simp only [unO, yfa1 hf hs.rs, Option.bind_some, yhj1 far]; cases hmq : mulQ (slopeQ (p (j - 1)) (p (j - 1 + 1))) far with
  | none => rfl
  | some up =>
   simp only [unO, Option.bind_some, yng (h.y (j - 1) (by omega)).1 (yzb1 hmq)]; rfl
end
end Go.PV

/-
 Plain laws: values of lifts.
 Conditions: none.
-/
set_option linter.all false
namespace Go.PV
structure LiftT (n : Nat) (p : Nat → Pt) : Prop where
 cur : Curve n p
 mono : ∀ i, 0 < i → i < n → less (p i).2 (p (i - 1)).2 = false
 lstY : (p (n - 1)).2 = ((p 0).2.1 + (p 0).2.2, (p 0).2.2)
 by5 : ∀ i, i < n → -5 * (p i).2.2 ≤ (p i).2.1 ∧ (p i).2.1 ≤ 5 * (p i).2.2
theorem yhn {f : List Pt} (h : isLift f = true) : ∃ n p, f = tab n p ∧ LiftT n p := by
 unfold isLift at h
 simp only [Bool.and_eq_true, decide_eq_true_eq] at h
 obtain ⟨hin, ⟨hall, hst⟩, he⟩ := h
 have hb := inB_iff.1 hin
 have e : f = tab f.length (fun i => f.getD i ((0, 0), (0, 0))) := yyp1 f
 have hg : ∀ i, i < f.length → goodPt (f.getD i ((0, 0), (0, 0))) = true := fun i hi => by
  have : f.getD i ((0, 0), (0, 0)) = f[i] := by simp [hi]
  rw [this]; exact List.all_eq_true.1 hall _ (List.getElem_mem hi)
 have hget : ∀ i, i < f.length → f[i]? = some (f.getD i ((0, 0), (0, 0))) := fun i hi => by simp [hi]
 have hs : ∀ i, 0 < i → i < f.length → stepPt (f.getD (i - 1) ((0, 0), (0, 0))) (f.getD i ((0, 0), (0, 0))) = true := fun i h0 hi => hst i _ _ h0 hi (hget (i - 1) (by omega)) (hget i hi)
 unfold ends at he
 rw [hget 0 (by omega), hget (f.length - 1) (by omega)] at he
 simp only [Bool.and_eq_true, beq_iff_eq] at he
 have hgp : ∀ i, i < f.length → coord (f.getD i ((0, 0), (0, 0))).1 = true ∧ isRat (f.getD i ((0, 0), (0, 0))).2 = true ∧ (f.getD i ((0, 0), (0, 0))).2.2 ≤ 100 ∧ -5 * (f.getD i ((0, 0), (0, 0))).2.2 ≤ (f.getD i ((0, 0), (0, 0))).2.1 ∧ (f.getD i ((0, 0), (0, 0))).2.1 ≤ 5 * (f.getD i ((0, 0), (0, 0))).2.2 := fun i hi => by
  have := hg i hi
  simp only [goodPt, Bool.and_eq_true, decide_eq_true_eq, inB_iff] at this; exact ⟨this.1, this.2.1, this.2.2.1, this.2.2.2.1, this.2.2.2.2⟩
 refine ⟨f.length, fun i => f.getD i ((0, 0), (0, 0)), e, ⟨⟨by omega, by omega, fun i hi => (hgp i hi).1, fun i hi => ?_, fun i h0 hi => ?_, he.1, he.2.1⟩, fun i h0 hi => ?_, he.2.2, fun i hi => (hgp i hi).2.2.2⟩⟩
 ·obtain ⟨_, h1, h2, h3, h4⟩ := hgp i hi
  have := isRat_iff.1 h1
  exact ⟨h1, by omega, by omega, by omega, h2⟩
 ·have := hs i h0 hi
  simp only [stepPt, Bool.and_eq_true] at this; exact this.1
 have := hs i h0 hi
 simp only [stepPt, Bool.and_eq_true, Bool.not_eq_true'] at this
 exact this.2
theorem ydc (f : List Pt) (hl : f.length ≤ 4611686018427387904) : yzc f = some (isLift f) ∧ ync f = some (isLift f) := ⟨yay f hl, yby f hl⟩
theorem ycd1 {r : Rt} (h : isRat r = true) : lowQ r.1 r.2 = some r := by unfold lowQ; rw [ysq h]; rfl
def flr (x : Rt) : Int := floorDiv x.1 x.2
def part (x : Rt) : Rt := (x.1 - flr x * x.2, x.2)
theorem yxe {k : Int} (h1 : -1000000000 ≤ k) (h2 : k ≤ 1000000000) : isRat (k, 1) = true := isRat_iff.2 ⟨by show (1 : Int) ≤ 1; omega, by show (1 : Int) ≤ _; omega, h1, h2, by show Int.gcd k 1 = 1; simp⟩
theorem yof {x : Rt} (h : near x = true) : isRat x = true ∧ -1000 * x.2 ≤ x.1 ∧ x.1 ≤ 1000 * x.2 := by
 simp only [near, Bool.and_eq_true, inB_iff] at h
 exact ⟨h.1, h.2⟩
structure PartOk (x : Rt) : Prop where
 rat : isRat (part x) = true
 lo : 0 ≤ (part x).1
 hi : (part x).1 < (part x).2
 spec : yre x = some (flr x)
 impl : yxh x = some (flr x)
 bd : flr x * x.2 ≤ x.1 ∧ x.1 < flr x * x.2 + x.2
theorem yxi {x : Rt} (h : isRat x = true) : PartOk x := by
 obtain ⟨h1, h2, h3, h4, h5⟩ := isRat_iff.1 h
 have hf := yzl x.1 x.2 (by omega)
 refine ⟨?_, by show 0 ≤ x.1 - flr x * x.2; unfold flr; omega, by show x.1 - flr x * x.2 < x.2; unfold flr; omega, ?_, ?_, hf⟩
 ·refine isRat_iff.2 ⟨h1, h2, by show -1000000000 ≤ x.1 - flr x * x.2; unfold flr; omega, by show x.1 - flr x * x.2 ≤ _; unfold flr; omega, ?_⟩
  show Int.gcd (x.1 - flr x * x.2) x.2 = 1
  rw [show x.1 - flr x * x.2 = x.1 + (-(flr x)) * x.2 by rw [Int.neg_mul]; omega, Int.gcd_add_mul_right_left]
  exact h5
 ·unfold yre; rw [yks _ _ (by omega) (by omega) (by omega)]; rfl
 unfold yxh; rw [yam _ _ (by omega) (by omega) (by omega)]; rfl
theorem ydy {x : Rt} (h : PartOk x) : isUnit (part x) = true := by
 have := h.lo
 have := h.hi
 simp only [isUnit, Bool.and_eq_true, inB_iff]
 exact ⟨h.rat, h.lo, by omega⟩
theorem yps {x : Rt} (h : near x = true) : -1000 ≤ flr x ∧ flr x ≤ 1000 := by
 obtain ⟨hr, h6, h7⟩ := yof h
 obtain ⟨h1, h2, h3, h4, h5⟩ := isRat_iff.1 hr
 have hf := yzl x.1 x.2 (by omega)
 unfold flr
 constructor
 ·by_cases h : floorDiv x.1 x.2 < -1000
  ·have : (floorDiv x.1 x.2 + 1) * x.2 ≤ -1000 * x.2 := Int.mul_le_mul_of_nonneg_right (by omega) (by omega)
   rw [Int.add_mul] at this; omega
  omega
 by_cases h : 1000 < floorDiv x.1 x.2
 ·have : 1001 * x.2 ≤ floorDiv x.1 x.2 * x.2 := Int.mul_le_mul_of_nonneg_right (by omega) (by omega)
  omega
 omega
theorem yij1 {x : Rt} (h : PartOk x) : subQ x (flr x, 1) = some (part x) := by
 have := ycd1 h.rat
 unfold subQ
 simp only [Int.mul_one]
 exact this
theorem yuv {x : Rt} (hx : isRat x = true) (h : near x = true) : yfb x (w64 (0 - flr x)) = some (part x) := by
 obtain ⟨h1, h2, h3, h4, h5⟩ := isRat_iff.1 hx
 have hb := yps h
 have hp := yxi hx
 have h6 := hp.bd
 unfold yfb part
 rw [yka (n := 0 - flr x) (by omega) (by omega)]
 have e : (0 - flr x) * x.2 = -(flr x * x.2) := by rw [Int.sub_mul]; omega
 rw [e, yka (n := -(flr x * x.2)) (by omega) (by omega), yka (by omega) (by omega)]
 congr 3
section
variable {n : Nat} {p : Nat → Pt}
open Classical in
noncomputable def atQ (n : Nat) (p : Nat → Pt) (x : Rt) : Option Rt := if h : ∃ j, AtJ n p x j then onQ (p (Classical.choose h - 1)) (p (Classical.choose h - 1 + 1)) x else none
theorem yqm1 {x : Rt} {j : Nat} (h : AtJ n p x j) : atQ n p x = onQ (p (j - 1)) (p (j - 1 + 1)) x := by
 have hx : ∃ j, AtJ n p x j := ⟨j, h⟩
 unfold atQ
 rw [dif_pos hx, AtJ.uniq (Classical.choose_spec hx) h]
theorem yaq1 {q r : Pt} {x y : Rt} (h : onQ q r x = some y) : isRat y = true := by
 unfold onQ at h
 obtain ⟨a, _, h⟩ := Option.bind_eq_some_iff.1 h
 obtain ⟨b, _, h⟩ := Option.bind_eq_some_iff.1 h
 exact yhl h
theorem ydd1 {x y : Rt} (h : atQ n p x = some y) : isRat y = true := by
 unfold atQ at h
 split at h
 ·exact yaq1 h
 cases h
theorem ybq1 (h : Curve n p) {x : Rt} (hx : isUnit x = true) : yfq (tab n p) x = some (unO (atQ n p x)) := by
 have hr : isRat x = true := by simp only [isUnit, Bool.and_eq_true] at hx; exact hx.1
 obtain ⟨j, hj⟩ := yes1 h hx
 rw [ybc1 h hr hj, yqm1 hj]
theorem ycq1 (h : Curve n p) {x : Rt} (hx : isUnit x = true) (bad : Bool) : ∃ v, yag bad (tab n p) x = some v ∧ CR bad (atQ n p x) v := by
 have hr : isRat x = true := by simp only [isUnit, Bool.and_eq_true] at hx; exact hx.1
 obtain ⟨j, hj⟩ := yes1 h hx
 rw [yqm1 hj]
 exact yha1 h hr hj bad
noncomputable def liftQ (n : Nat) (p : Nat → Pt) (x : Rt) : Option Rt := (atQ n p (part x)).bind fun y => addQ y (flr x, 1)
theorem yed1 {x y : Rt} (h : liftQ n p x = some y) : isRat y = true := by
 obtain ⟨a, _, h⟩ := Option.bind_eq_some_iff.1 h
 exact yhl h
theorem yrj (h : Curve n p) {x : Rt} (hx : near x = true) : ysk (tab n p) x = some (unO (liftQ n p x)) := by
 have hr := (yof hx).1
 have hp := yxi hr
 have hk := yps hx
 unfold ysk liftQ
 rw [hp.spec]
 simp only [Option.bind_some, yuv hr hx, ybq1 h (ydy hp), yjb]
 cases ha : atQ n p (part x) with
 | none => rfl
 | some y =>
  simp only [unO, Bool.not_true, Bool.false_eq_true, if_false, Option.bind_some, yng (ydd1 ha) (yxe (k := flr x) (by omega) (by omega))]
theorem ycc1 (h : Curve n p) {x : Rt} (hx : near x = true) (bad : Bool) : ∃ v, yjj bad (tab n p) x = some v ∧ CR bad (liftQ n p x) v := by
 have hr := (yof hx).1
 have hp := yxi hr
 have hk := yps hx
 have hw := yxe (k := flr x) (by omega) (by omega)
 obtain ⟨v, e1, e2⟩ := ycq1 h (ydy hp) bad
 have c3 := ysk1 (bad := v.2) (o := addQ v.1 (flr x, 1)) fun _ => yhl
 refine ⟨cK v.2 (addQ v.1 (flr x, 1)), ?_, ybx (g := fun y => addQ y (flr x, 1)) e2 c3⟩
 unfold yjj yhe
 rw [hp.impl]
 simp only [Option.bind_some]
 rw [yqi bad hr hw, yij1 hp]
 simp only [Option.bind_some, cK]
 rw [e1, Option.bind_some, ygn _ e2.1 hw]
 rfl
end
theorem yst (f : List Pt) (x : Rt) (hl : f.length ≤ 4611686018427387904) : ∃ r, ywj f x = some r ∧ yui f x = some r := by
 obtain ⟨h1, h2⟩ := ydc f hl
 unfold ywj yui
 rw [h1, h2]
 cases hf : isLift f
 ·exact ⟨_, rfl, rfl⟩
 obtain ⟨n, p, rfl, hL⟩ := yhn hf
 simp only [Option.bind_some, Bool.not_true, Bool.false_eq_true, if_false, ywi, yfp]
 cases hx : near x
 ·exact ⟨_, rfl, rfl⟩
 obtain ⟨v, e1, e2, e3⟩ := ycc1 hL.cur hx false
 simp only [Bool.not_true, Bool.false_eq_true, if_false, Option.bind_some, yrj hL.cur hx, e1]
 cases hq : liftQ n p x with
 | none => rw [hq] at e3; simp only at e3; rw [e3]; exact ⟨_, rfl, rfl⟩
 | some y => rw [hq] at e3; simp only at e3; subst e3; exact ⟨_, rfl, rfl⟩
end Go.PV

set_option linter.all false
namespace Go.PV
theorem ydc1 {a b : Int × Int} (hl : less a b = true) : less b a = false := by
 simp only [less, decide_eq_true_eq, decide_eq_false_iff_not] at hl ⊢
 omega
def minStep (a b : Int × Int) : Int × Int := if less b a = true then b else a
def maxStep (a b : Int × Int) : Int × Int := if less a b = true then b else a
def mnN (r : Nat → Int × Int) (i : Nat) : Int × Int := foldN i (fun s j => minStep s (r j)) (r 0)
def mxN (r : Nat → Int × Int) (i : Nat) : Int × Int := foldN i (fun s j => maxStep s (r j)) (r 0)
theorem yey (r : Nat → Int × Int) (i : Nat) : mnN r (i + 1) = minStep (mnN r i) (r i) := by simp [mnN, yea1]
theorem yfy (r : Nat → Int × Int) (i : Nat) : mxN r (i + 1) = maxStep (mxN r i) (r i) := by simp [mxN, yea1]
theorem ycq (a : Int × Int) : less a a = false := by simp [less]
theorem ydq1 (r : Nat → Int × Int) : mnN r 1 = r 0 := by simp [mnN, foldN, minStep, ycq]
theorem yeq1 (r : Nat → Int × Int) : mxN r 1 = r 0 := by simp [mxN, foldN, maxStep, ycq]
theorem yec1 {r : Nat → Int × Int} {n : Nat} (h0 : isRat (r 0) = true) (h : ∀ i, i < n → isRat (r i) = true) : ∀ i, i ≤ n → isRat (mnN r i) = true ∧ isRat (mxN r i) = true
 | 0, _ => by simpa [mnN, mxN, yng1] using h0
 | i + 1, hi => by
  have ih := yec1 h0 h i (by omega)
  rw [yey, yfy]; unfold minStep maxStep
  refine ⟨?_, ?_⟩
  ·split
   ·exact h i (by omega)
   exact ih.1
  split
  ·exact h i (by omega)
  exact ih.2
theorem yhe1 (a b : Int × Int) : decide (cmp a b < 0) = less a b := by
 unfold cmp less
 by_cases h1 : a.1 * b.2 < b.1 * a.2
 ·simp [h1]
 by_cases h2 : a.1 * b.2 > b.1 * a.2 <;> simp [h1, h2]
theorem ygy (a b : Int × Int) (ha : isRat a = true) (hb : isRat b = true) : ymn a b = some (minStep a b) := by
 unfold ymn minStep
 rw [yfc a b (ypc ha) (ypc hb), Option.bind_some, yhe1]
 cases h : less a b
 ·simp only [Bool.false_eq_true, if_false]
  cases h2 : less b a
  ·simp only [Bool.false_eq_true, if_false]
   congr 1
   refine (yyb1 ha hb ?_).symm
   simp only [less, decide_eq_false_iff_not] at h h2; omega
  rfl
 rw [ydc1 h]; rfl
theorem yru (a b : Int × Int) (ha : isRat a = true) (hb : isRat b = true) : ybj a b = some (maxStep a b) := by
 unfold ybj maxStep
 rw [yfc a b (ypc ha) (ypc hb), Option.bind_some, yhe1]
 cases less a b <;> rfl
def ratN (G : Nat → Nat → Int) (v : Nat → Int) (n i : Nat) : Int × Int := (lowest (dotN (G i) v n) (v i)).1
section
variable {n : Nat} {G : Nat → Nat → Int} {v : Nat → Int}
theorem ysg1 {r : Nat → Int × Int} (h1 : 1 ≤ n) (hn : n ≤ 1048576) (hr : ∀ i, i < n → isRat (r i) = true) : yab (tab n r) (fun x0 x1 => ymc x0 x1) = some (mnN r n) := by
 have h := yae (body := yta (tab n r) (fun x0 x1 => ymc x0 x1)) (n - 1) (fun i => ((mnN r (i + 1)).1, (mnN r (i + 1)).2, ((i + 1 : Nat) : Int))) (mnN r n) (fun i hi => by
  have hi' : i + 1 < n := by omega
  have b := yec1 (hr 0 (by omega)) hr (i + 1) (by omega)
  simp only [yta, yzd, yrb hi', Option.bind_some, show (((i + 1 : Nat) : Int) < (n : Int)) from by omega, decide_true, if_true, ywe (show i + 1 < 9223372036854775807 by omega)]
  rw [show ((mnN r (i + 1)).1, (mnN r (i + 1)).2) = mnN r (i + 1) from rfl, ynm _ _ (ypc (hr _ hi')) (ypc b.1), Option.bind_some, yhe1, yey r (i + 1)]; unfold minStep; cases less (r (i + 1)) (mnN r (i + 1)) <;> simp) (by
  have e : n - 1 + 1 = n := by omega
  simp [yta, yzd, e])
 unfold yab ydb
 have hl : ¬ (n : Int) < 1 := by omega
 simp only [yzd, hl, decide_false, Bool.false_eq_true, if_false]
 rw [show (0 : Int) = ((0 : Nat) : Int) from rfl, yrb (by omega), Option.bind_some]
 simp only [Nat.zero_add, ydq1] at h
 have h' : loopO (yta (tab n r) (fun x0 x1 => ymc x0 x1)) ((r 0).1, (r 0).2, 1) = some (mnN r n) := h
 rw [h']
 rfl
theorem ytg1 {r : Nat → Int × Int} (h1 : 1 ≤ n) (hn : n ≤ 1048576) (hr : ∀ i, i < n → isRat (r i) = true) : ybb (tab n r) (fun x0 x1 => ymc x0 x1) = some (mxN r n) := by
 have h := yae (body := yua (tab n r) (fun x0 x1 => ymc x0 x1)) (n - 1) (fun i => ((mxN r (i + 1)).1, (mxN r (i + 1)).2, ((i + 1 : Nat) : Int))) (mxN r n) (fun i hi => by
  have hi' : i + 1 < n := by omega
  have b := yec1 (hr 0 (by omega)) hr (i + 1) (by omega)
  simp only [yua, yzd, yrb hi', Option.bind_some, show (((i + 1 : Nat) : Int) < (n : Int)) from by omega, decide_true, if_true, ywe (show i + 1 < 9223372036854775807 by omega)]
  rw [show ((mxN r (i + 1)).1, (mxN r (i + 1)).2) = mxN r (i + 1) from rfl, ynm _ _ (ypc (hr _ hi')) (ypc b.2), Option.bind_some, yxp1, yfy r (i + 1)]; unfold maxStep; cases less (mxN r (i + 1)) (r (i + 1)) <;> simp) (by
  have e : n - 1 + 1 = n := by omega
  simp [yua, yzd, e])
 unfold ybb yeb
 have hl : ¬ (n : Int) < 1 := by omega
 simp only [yzd, hl, decide_false, Bool.false_eq_true, if_false]
 rw [show (0 : Int) = ((0 : Nat) : Int) from rfl, yrb (by omega), Option.bind_some]
 simp only [Nat.zero_add, yeq1] at h
 have h' : loopO (yua (tab n r) (fun x0 x1 => ymc x0 x1)) ((r 0).1, (r 0).2, 1) = some (mxN r n) := h
 rw [h']
 rfl
end
def asked (g : List (List Int)) (u : List Int) : Bool := isGraph g && (isVec u && ((u.length : Int) == (g.length : Int)))
end Go.PV

set_option linter.all false
namespace Go.PV
theorem yfs1 (a b : Int × Int) : decide (cmp a b ≤ 0) = !less b a := by
 unfold cmp less
 by_cases h1 : a.1 * b.2 < b.1 * a.2
 ·have : ¬ b.1 * a.2 < a.1 * b.2 := by omega
  simp [h1, this]
 by_cases h2 : a.1 * b.2 > b.1 * a.2
 ·have h3 : b.1 * a.2 < a.1 * b.2 := h2
  simp [h1, h3]
 have : ¬ b.1 * a.2 < a.1 * b.2 := by omega
 simp [h1, this]
end Go.PV

/-
 Plain laws: where a lift comes from.
 Conditions: none.
-/
set_option linter.all false
namespace Go.PV
theorem yug1 {n d : Int} (hd : 0 < d) {r : Rt} (h : lowQ n d = some r) : r.1 * d = n * r.2 ∧ 1 ≤ r.2 := by
 have hr := ypt h
 have h2 := (isRat_iff.1 hr).1
 have hdn : ¬ d < 0 := by omega
 unfold lowQ lowest at h
 simp only [if_neg hdn] at h
 by_cases h3 : isRat (Int.tdiv n (Int.gcd n d : Int), Int.tdiv d (Int.gcd n d : Int)) = true
 ·rw [if_pos h3] at h
  simp only [if_true] at h; obtain rfl := Option.some.inj h
  have a : (Int.gcd n d : Int) ∣ n := Int.gcd_dvd_left ..
  have b : (Int.gcd n d : Int) ∣ d := Int.gcd_dvd_right ..
  refine ⟨?_, h2⟩
  show Int.tdiv n (Int.gcd n d : Int) * d = n * Int.tdiv d (Int.gcd n d : Int)
  have e1 := Int.tdiv_mul_cancel a; have e2 := Int.tdiv_mul_cancel b; generalize Int.tdiv n (Int.gcd n d : Int) = u at *
  generalize Int.tdiv d (Int.gcd n d : Int) = v at *
  generalize (Int.gcd n d : Int) = g at *
  subst e1; rw [← e2]; grind
 rw [if_neg h3] at h; simp at h
theorem yhy {n d : Int} (hd : 0 < d) (hn : 0 < n) {r : Rt} (h : lowQ n d = some r) : 0 < r.1 := by
 obtain ⟨a, b⟩ := yug1 hd h
 have : 0 < n * r.2 := Int.mul_pos hn (by omega)
 rw [← a] at this
 exact Int.pos_of_mul_pos_left this (by omega) |> fun h => h
theorem ygs1 {a b c : Rt} (ha : isRat a = true) (hb : isRat b = true) (hc : isRat c = true) (h1 : less a b = true) (h2 : less c b = false) : less a c = true := by
 have a2 := (isRat_iff.1 ha).1
 have b2 := (isRat_iff.1 hb).1
 have c2 := (isRat_iff.1 hc).1
 simp only [less, decide_eq_true_eq, decide_eq_false_iff_not] at *
 have m1 := Int.mul_le_mul_of_nonneg_right (show b.1 * c.2 ≤ c.1 * b.2 by omega) (show 0 ≤ a.2 by omega)
 have m2 := Int.mul_lt_mul_of_pos_right h1 (show 0 < c.2 by omega)
 refine Classical.byContradiction fun h3 => ?_
 have m3 := Int.mul_le_mul_of_nonneg_right (show c.1 * a.2 ≤ a.1 * c.2 by omega) (show 0 ≤ b.2 by omega)
 grind
theorem yhs1 {a b c : Rt} (ha : isRat a = true) (hb : isRat b = true) (hc : isRat c = true) (h1 : less b a = false) (h2 : less c b = false) : less c a = false := by
 cases h : less c a
 ·rfl
 have := ygs1 hc ha hb h h1
 rw [h2] at this; cases this
theorem ytk1 {a b : Rt} (ha : isRat a = true) (hb : isRat b = true) (h1 : less a b = false) (h2 : less b a = false) : a = b := by
 refine yyb1 ha hb ?_
 simp only [less, decide_eq_false_iff_not] at h1 h2
 omega
theorem ypk {x : Rt} (h : near x = true) : yyk x = some (part x) := by
 have hr := (yof h).1
 obtain ⟨h1, h2, h3, h4, h5⟩ := isRat_iff.1 hr
 have hb := yps h
 have hp := yxi hr
 have h6 := hp.bd
 have h7 := hp.lo
 have h8 := hp.hi
 unfold yyk
 rw [hp.spec, Option.bind_some]
 unfold part at *
 simp only at h7 h8
 rw [yka (n := flr x * x.2) (by omega) (by omega), yka (by omega) (by omega)]
theorem yjl {x : Rt} (h : near x = true) : yde x = some (part x) := by
 have hr := (yof h).1
 obtain ⟨h1, h2, h3, h4, h5⟩ := isRat_iff.1 hr
 have hb := yps h
 have hp := yxi hr
 have h6 := hp.bd
 have h7 := hp.lo
 have h8 := hp.hi
 unfold yde
 rw [hp.impl, Option.bind_some]
 unfold part at *
 simp only at h7 h8
 rw [yka (n := flr x * x.2) (by omega) (by omega), yka (by omega) (by omega)]
def turnK (y x : Rt) : Int := if less (part x) (part y) = true then flr x - flr y - 1 else flr x - flr y
theorem yfc1 {x y : Rt} (hx : near x = true) (hy : near y = true) : -2001 ≤ turnK y x ∧ turnK y x ≤ 2001 := by
 have a := yps hx
 have b := yps hy
 unfold turnK
 split <;> omega
theorem yuk1 {x y z : Rt} (hx : near x = true) (hy : near y = true) (hz : subQ x (turnK y x, 1) = some z) : isRat z = true ∧ less z y = false ∧ less z (y.1 + y.2, y.2) = true := by
 have hrz := yfo hz
 have rx := (yof hx).1
 have ry := (yof hy).1
 have x2 := (isRat_iff.1 rx).1
 have y2 := (isRat_iff.1 ry).1
 have px := yxi rx
 have py := yxi ry
 refine ⟨hrz, ?_⟩
 have e := yug1 (by show 0 < x.2 * 1; omega) hz
 have z2 := e.2
 have e1 : z.1 * x.2 = (x.1 - turnK y x * x.2) * z.2 := by
  have := e.1
  simp only [Int.mul_one] at this; exact this
 -- z and x - k are the same number
 have hx1 : x.1 = (part x).1 + flr x * x.2 := by unfold part; simp only; omega
 have hy1 : y.1 = (part y).1 + flr y * y.2 := by unfold part; simp only; omega
 have l1 := px.lo
 have l2 := px.hi
 have l3 := py.lo
 have l4 := py.hi
 have ex : (part x).2 = x.2 := rfl
 have ey : (part y).2 = y.2 := rfl
 rw [ex] at l2
 rw [ey] at l4
 have key : 0 ≤ (x.1 - turnK y x * x.2) * y.2 - y.1 * x.2 ∧ (x.1 - turnK y x * x.2) * y.2 - y.1 * x.2 < y.2 * x.2 := by
  have q1 : 0 ≤ (part x).1 * y.2 := Int.mul_nonneg l1 (by omega)
  have q2 : (part x).1 * y.2 < x.2 * y.2 := Int.mul_lt_mul_of_pos_right l2 (by omega)
  have q3 : 0 ≤ (part y).1 * x.2 := Int.mul_nonneg l3 (by omega)
  have q4 : (part y).1 * x.2 < y.2 * x.2 := Int.mul_lt_mul_of_pos_right l4 (by omega)
  have q5 : x.2 * y.2 = y.2 * x.2 := Int.mul_comm ..
  unfold turnK; cases hl : less (part x) (part y)
  ·have : ¬ (part x).1 * y.2 < (part y).1 * x.2 := by simpa [less, ex, ey] using hl
   have e2 : (x.1 - (flr x - flr y) * x.2) * y.2 - y.1 * x.2 = (part x).1 * y.2 - (part y).1 * x.2 := by rw [hx1, hy1]; grind
   simp only [Bool.false_eq_true, if_false]; rw [e2]; omega
  have : (part x).1 * y.2 < (part y).1 * x.2 := by simpa [less, ex, ey] using hl
  have e2 : (x.1 - (flr x - flr y - 1) * x.2) * y.2 - y.1 * x.2 = (part x).1 * y.2 - (part y).1 * x.2 + y.2 * x.2 := by rw [hx1, hy1]; grind
  simp only [if_true]; rw [e2]; omega
 generalize x.1 - turnK y x * x.2 = w at *
 simp only [less, decide_eq_true_eq, decide_eq_false_iff_not]
 have m1 : z.1 * y.2 * x.2 = w * y.2 * z.2 := by
  have : z.1 * y.2 * x.2 = z.1 * x.2 * y.2 := by grind
  rw [this, e1]; grind
 constructor
 ·intro h
  have m2 := Int.mul_lt_mul_of_pos_right h (show 0 < x.2 by omega)
  have m3 := Int.mul_le_mul_of_nonneg_right (show y.1 * x.2 ≤ w * y.2 by omega) (show 0 ≤ z.2 by omega)
  grind
 refine Classical.byContradiction fun h => ?_
 have m2 := Int.mul_le_mul_of_nonneg_right (show (y.1 + y.2) * z.2 ≤ z.1 * y.2 by omega) (show 0 ≤ x.2 by omega)
 have m3 := Int.mul_lt_mul_of_pos_right (show w * y.2 < y.1 * x.2 + y.2 * x.2 by omega) (show 0 < z.2 by omega)
 grind
section
variable {n : Nat} {p : Nat → Pt}
def backQ (q r : Pt) (z : Rt) : Option Rt := (subQ z q.2).bind fun u => (divQ u (slopeQ q r)).bind fun v => addQ q.1 v
theorem yiy (h : Curve n p) {i : Nat} (hi : i + 1 < n) {z : Rt} (hz : isRat z = true) : yrn (p i) (p (i + 1)) z = some (unO (backQ (p i) (p (i + 1)) z)) := by
 obtain ⟨u, v, hs⟩ := h.piece hi
 unfold yrn backQ
 rw [yjf hz (h.y i (by omega)).1, Option.bind_some]
 cases h1 : subQ z (p i).2 with
 | none => rfl
 | some a =>
  simp only [unO, Bool.not_true, Bool.false_eq_true, if_false, ytq (h.x i (by omega)) (h.y i (by omega)) (h.x (i + 1) hi) (h.y (i + 1) hi) hs, Option.bind_some, ybu (yfo h1) hs.rs]
  cases h2 : divQ a (slopeQ (p i) (p (i + 1))) with
  | none => rfl
  | some b =>
   simp only [unO, Bool.not_true, Bool.false_eq_true, if_false, Option.bind_some, yng (yvd (h.x i (by omega))) (yxx h2)]
theorem yvv (h : Curve n p) {i : Nat} (hi : i + 1 < n) {z : Rt} (hz : isRat z = true) (bad : Bool) : ∃ v, ykj bad (p i) (p (i + 1)) z = some v ∧ CR bad (backQ (p i) (p (i + 1)) z) v := by
 obtain ⟨u, v, hs⟩ := h.piece hi
 have c1 : CR bad (subQ z (p i).2) (cK bad (subQ z (p i).2)) := ysk1 fun _ => yfo
 have c2 := ysk1 (bad := (cK bad (subQ z (p i).2)).2) (o := divQ (cK bad (subQ z (p i).2)).1 (slopeQ (p i) (p (i + 1)))) fun _ => yxx
 have c3 := ysk1 (bad := (cK (cK bad (subQ z (p i).2)).2 (divQ (cK bad (subQ z (p i).2)).1 (slopeQ (p i) (p (i + 1))))).2) (o := addQ (p i).1 (cK (cK bad (subQ z (p i).2)).2 (divQ (cK bad (subQ z (p i).2)).1 (slopeQ (p i) (p (i + 1))))).1) fun _ => yhl
 refine ⟨_, ?_, ybx c1 (ybx (g := fun b => addQ (p i).1 b) c2 c3)⟩
 unfold ykj
 rw [yqi bad hz (h.y i (by omega)).1, Option.bind_some, ycu (h.x i (by omega)) (h.y i (by omega)) (h.x (i + 1) hi) (h.y (i + 1) hi) hs, Option.bind_some, yax _ c1.1 hs.rs, Option.bind_some, ygn _ (yvd (h.x i (by omega))) c2.1]
 rfl
theorem yvg1 (h : Curve n p) {i : Nat} (hi : i + 1 < n) {z t : Rt} (hz : isRat z = true) (h1 : less (p i).2 z = true) (h2 : less z (p (i + 1)).2 = true ∨ less (p (i + 1)).2 z = false) (hb : backQ (p i) (p (i + 1)) z = some t) : t ≠ (0, 1) := by
 obtain ⟨u, v, hs⟩ := h.piece hi
 have ry := (h.y i (by omega)).1
 have ry' := (h.y (i + 1) hi).1
 have h3 : less (p i).2 (p (i + 1)).2 = true := by
  rcases h2 with h2 | h2
  ·exact ygs1 ry hz ry' h1 (ypg1 h2)
  exact ygs1 ry hz ry' h1 h2
 have hu : 0 < u.1 := by
  have a := hs.up; refine yhy (yga1 ry' ry) ?_ a
  have : (p i).2.1 * (p (i + 1)).2.2 < (p (i + 1)).2.1 * (p i).2.2 := by simpa [less] using h3
  omega
 have hsp : 0 < (slopeQ (p i) (p (i + 1))).1 := hs.sg.1.2 hu
 unfold backQ at hb
 obtain ⟨a, ha, hb⟩ := Option.bind_eq_some_iff.1 hb
 obtain ⟨b, hb1, hb⟩ := Option.bind_eq_some_iff.1 hb
 have pa : 0 < a.1 := by
  refine yhy (yga1 hz ry) ?_ ha
  have : (p i).2.1 * z.2 < z.1 * (p i).2.2 := by simpa [less] using h1
  omega
 have a2 := (isRat_iff.1 (yfo ha)).1
 have s2 := (isRat_iff.1 hs.rs).1
 have pb : 0 < b.1 := by
  unfold divQ at hb1; rw [if_neg (by omega)] at hb1; exact yhy (Int.mul_pos (by omega) hsp) (Int.mul_pos pa (by omega)) hb1
 have b2 := (isRat_iff.1 (yxx hb1)).1
 have c := yqt (h.x i (by omega))
 have pt : 0 < t.1 := by
  refine yhy (Int.mul_pos (by omega) (by omega)) ?_ hb
  have m1 : 0 ≤ (p i).1.1 * b.2 := Int.mul_nonneg c.1 (by omega)
  have m2 : 0 < b.1 * (p i).1.2 := Int.mul_pos pb (by omega)
  omega
 intro he
 rw [he] at pt
 exact absurd pt (by decide)
theorem LiftT.le (h : LiftT n p) : ∀ {i j : Nat}, i ≤ j → j < n → less (p j).2 (p i).2 = false := by
 intro i j hij hj
 induction j with
 | zero =>
  have : i = 0 := by omega
  subst this; simp [less]
 | succ j ih =>
  by_cases he : i = j + 1
  ·subst he; simp [less]
  exact yhs1 (h.cur.y i (by omega)).1 (h.cur.y j (by omega)).1 (h.cur.y (j + 1) hj).1 (ih (by omega) (by omega)) (h.mono (j + 1) (by omega) hj)
structure UpJ (n : Nat) (p : Nat → Pt) (z : Rt) (j : Nat) : Prop where
 pos : 0 < j
 lt : j < n
 bef : ∀ k, k < j → less (p k).2 z = true
 at' : less (p j).2 z = false
theorem yvk1 {z : Rt} (h0 : less (p 0).2 z = true) (h1 : less (p (n - 1)).2 z = false) (hn : 2 ≤ n) : ∃ j, UpJ n p z j := by
 have : ∀ k, k < n → (∃ j, UpJ n p z j) ∨ ∀ i, i ≤ k → less (p i).2 z = true := by
  intro k; induction k with
  | zero => intro _; exact .inr fun i hi => by have : i = 0 := (by omega); subst this; exact h0
  | succ k ih =>
   intro hk; rcases ih (by omega) with h2 | h2
   ·exact .inl h2
   cases h3 : less (p (k + 1)).2 z
   ·exact .inl ⟨k + 1, by omega, hk, fun i hi => h2 i (by omega), h3⟩
   refine .inr fun i hi => ?_
   by_cases hik : i ≤ k
   ·exact h2 i hik
   have : i = k + 1 := by omega
   subst this; exact h3
 rcases this (n - 1) (by omega) with h2 | h2
 ·exact h2
 have := h2 (n - 1) (Nat.le_refl _)
 rw [h1] at this; cases this
structure FlatJ (n : Nat) (p : Nat → Pt) (j : Nat) : Prop where
 pos : 0 < j
 lt : j < n
 same : ∀ k, j < k → k < n → (p (k - 1)).2 = (p k).2
 step : (p (j - 1)).2 ≠ (p j).2
theorem yfd1 (h : LiftT n p) : ∃ j, FlatJ n p j := by
 have h1 := h.cur.lo
 have : ∀ d, d < n → (∃ j, FlatJ n p j) ∨ ∀ k, n - 1 - d < k → k < n → (p (k - 1)).2 = (p k).2 := by
  intro d; induction d with
  | zero => intro _; exact .inr fun k hk hk2 => by omega
  | succ d ih =>
   intro hd; rcases ih (by omega) with h2 | h2
   ·exact .inl h2
   by_cases h3 : (p (n - 1 - d - 1)).2 = (p (n - 1 - d)).2
   ·refine .inr fun k hk hk2 => ?_
    by_cases hk3 : n - 1 - d < k
    ·exact h2 k hk3 hk2
    have : k = n - 1 - d := by omega
    subst this; exact h3
   exact .inl ⟨n - 1 - d, by omega, by omega, h2, h3⟩
 rcases this (n - 1) (by omega) with h2 | h2
 ·exact h2
 exfalso
 have : ∀ k, k < n → (p k).2 = (p 0).2 := by
  intro k; induction k with
  | zero => intro _; rfl
  | succ k ih => intro hk; rw [← ih (by omega)]; exact (h2 (k + 1) (by omega) hk).symm
 have h3 := this (n - 1) (by omega)
 rw [h.lstY] at h3
 have h4 := congrArg Prod.fst h3
 simp only at h4
 have := (h.cur.y 0 (by omega)).2.2.2.1
 omega
theorem LiftT.near0 (h : LiftT n p) : near (p 0).2 = true := by
 have h1 := h.cur.lo
 have a := h.by5 0 (by omega)
 have b := h.cur.y 0 (by omega)
 simp only [near, Bool.and_eq_true, inB_iff]
 exact ⟨b.1, by omega, by omega⟩
section
variable (h : Curve n p) {z : Rt} (hz : isRat z = true)
include h hz
theorem ybm {i : Nat} (hi : i + 1 < n) (a b : Int) : ypb (tab n p) (z, true) (a, b, ((i + 1 : Nat) : Int)) =
  if (less (p i).2 z && !less (p (i + 1)).2 z) = true then (match backQ (p i) (p (i + 1)) z with
   | none => some (.inr (.inl ((0, 0), false)))
   | some t => some (.inl (t.1, t.2, ((i + 1 + 1 : Nat) : Int)))) else some (.inl (a, b, ((i + 1 + 1 : Nat) : Int))) := by
 have h2 := h.hi
 have e1 : w64 (((i + 1 : Nat) : Int) - 1) = (i : Int) := by rw [yka (by omega) (by omega)]; omega
 simp only [ypb, yzd, show (((i + 1 : Nat) : Int) < (n : Int)) from by omega, decide_true, if_true, e1, yrb (show i < n by omega), yrb hi, Option.bind_some, yfc _ _ (ypc (h.y i (by omega)).1) (ypc hz), yfc _ _ (ypc hz) (ypc (h.y (i + 1) hi).1), yhe1, yfs1, ywe (show i + 1 < 9223372036854775807 by omega)]
 cases less (p i).2 z
 ·rfl
 cases less (p (i + 1)).2 z
 ·simp only [if_true, Option.bind_some, Bool.not_false, Bool.and_self, yiy h hi hz]
  cases backQ (p i) (p (i + 1)) z <;> rfl
 rfl
theorem ycx (hm : ∀ {i j : Nat}, i ≤ j → j < n → less (p j).2 (p i).2 = false) {J : Nat} (hJ : UpJ n p z J) (a b : Int) :
  loopO (ypb (tab n p) (z, true)) (a, b, 1) = some (match backQ (p (J - 1)) (p (J - 1 + 1)) z with
   | none => .inl ((0, 0), false)
   | some t => .inr (t.1, t.2)) := by
 have h1 := h.lo
 have hp := hJ.pos
 have hlt := hJ.lt
 have e0 : ((1 : Int)) = ((0 + 1 : Nat) : Int) := rfl
 have hno : ∀ i, i + 1 < n → i ≠ J - 1 → (less (p i).2 z && !less (p (i + 1)).2 z) = false := fun i hi hne => by
  by_cases hl : i < J - 1
  ·rw [hJ.bef i (by omega), hJ.bef (i + 1) (by omega)]; rfl
  have : less (p i).2 z = false := by
   have h5 := yhs1 (a := z) (b := (p J).2) (c := (p i).2) hz (h.y J hlt).1 (h.y i (by omega)).1 hJ.at' (hm (show J ≤ i by omega) (by omega))
   exact h5
  rw [this]; rfl
 have hyes : (less (p (J - 1)).2 z && !less (p (J - 1 + 1)).2 z) = true := by
  rw [hJ.bef (J - 1) (by omega), show J - 1 + 1 = J by omega, hJ.at']; rfl
 cases hq : backQ (p (J - 1)) (p (J - 1 + 1)) z with
 | none =>
  rw [e0]; refine yae (J - 1) (fun i => (a, b, ((i + 1 : Nat) : Int))) _ (fun i hi => ?_) ?_
  ·rw [ybm h hz (show i + 1 < n by omega), hno i (by omega) (by omega)]; simp
  rw [ybm h hz (show J - 1 + 1 < n by omega), hyes, if_pos rfl, hq]
 | some t =>
  have := yae (body := ypb (tab n p) (z, true)) (n - 1) (fun i => (if i < J then a else t.1, if i < J then b else t.2, ((i + 1 : Nat) : Int))) (.inr (t.1, t.2)) (fun i hi => by
   rw [ybm h hz (show i + 1 < n by omega)]; by_cases he : i = J - 1
   ·subst he
    rw [hyes, if_pos rfl, hq]; simp [show ¬ (J - 1 + 1 < J) by omega]
   ·rw [hno i (by omega) he]
    by_cases hl : i < J
    ·simp [hl, show i + 1 < J by omega]
    simp [hl, show ¬ (i + 1 < J) by omega]) (by
   simp [ypb, yzd, show ¬ (n - 1 < J) by omega]
   omega)
  simp only [show (0 < J) from hp, if_true] at this; exact this
theorem ydx (hn : ∀ i, i < n → less (p i).2 z = false) (a b : Int) :
  loopO (ypb (tab n p) (z, true)) (a, b, 1) = some (.inr (a, b)) := by
 have h1 := h.lo
 have e0 : ((1 : Int)) = ((0 + 1 : Nat) : Int) := rfl
 rw [e0]
 refine yae (n - 1) (fun i => (a, b, ((i + 1 : Nat) : Int))) _ (fun i hi => ?_) ?_
 ·rw [ybm h hz (show i + 1 < n by omega), hn i (by omega)]; simp
 simp [ypb, yzd]; omega
end
theorem ygd1 (h : LiftT n p) {j : Nat} (hj : FlatJ n p j) : loopO (yaf (tab n p)) ((n - 1 : Nat) : Int) = some (j : Int) ∧ loopO (ykc (tab n p)) ((n - 1 : Nat) : Int) = some (j : Int) := by
 have h1 := h.cur.lo
 have h2 := h.cur.hi
 have hlt := hj.lt
 have hp := hj.pos
 have e : ∀ i, i ≤ n - 1 - j → ((n - 1 - i : Nat) : Int) > 0 ∧ w64 (((n - 1 - i : Nat) : Int) - 1) = ((n - 1 - i - 1 : Nat) : Int) := fun i hi => ⟨by omega, by rw [yka (by omega) (by omega)]; omega⟩
 have hs : ∀ i, i < n - 1 - j → ((p (n - 1 - i - 1)).2.1 == (p (n - 1 - i)).2.1 && (p (n - 1 - i - 1)).2.2 == (p (n - 1 - i)).2.2) = true := fun i hi => by
  rw [hj.same (n - 1 - i) (by omega) (by omega)]; simp
 have hn : ((p (n - 1 - (n - 1 - j) - 1)).2.1 == (p (n - 1 - (n - 1 - j))).2.1 && (p (n - 1 - (n - 1 - j) - 1)).2.2 == (p (n - 1 - (n - 1 - j))).2.2) = false := by
  rw [show n - 1 - (n - 1 - j) = j by omega]; cases he : ((p (j - 1)).2.1 == (p j).2.1 && (p (j - 1)).2.2 == (p j).2.2)
  ·rfl
  exfalso
  simp only [Bool.and_eq_true, beq_iff_eq] at he; exact hj.step (Prod.ext he.1 he.2)
 constructor
 ·refine yae (n - 1 - j) (fun i => ((n - 1 - i : Nat) : Int)) _ (fun i hi => ?_) ?_
  ·have := e i (by omega)
   simp only [yaf, this.1, this.2, decide_true, if_true, yrb (show n - 1 - i - 1 < n by omega), yrb (show n - 1 - i < n by omega), Option.bind_some, hs i hi]; rw [show n - 1 - i - 1 = n - 1 - (i + 1) by omega]
  have := e (n - 1 - j) (by omega)
  simp only [yaf, this.1, this.2, decide_true, if_true, yrb (show n - 1 - (n - 1 - j) - 1 < n by omega), yrb (show n - 1 - (n - 1 - j) < n by omega), Option.bind_some, hn, Bool.false_eq_true, if_false]
  rw [show n - 1 - (n - 1 - j) = j by omega]
 refine yae (n - 1 - j) (fun i => ((n - 1 - i : Nat) : Int)) _ (fun i hi => ?_) ?_
 ·have := e i (by omega)
  simp only [ykc, this.2, if_true, yrb (show n - 1 - i - 1 < n by omega), yrb (show n - 1 - i < n by omega), Option.bind_some, hs i hi]; rw [show n - 1 - i - 1 = n - 1 - (i + 1) by omega]
 have := e (n - 1 - j) (by omega)
 simp only [ykc, this.2, if_true, yrb (show n - 1 - (n - 1 - j) - 1 < n by omega), yrb (show n - 1 - (n - 1 - j) < n by omega), Option.bind_some, hn, Bool.false_eq_true, if_false]
 rw [show n - 1 - (n - 1 - j) = j by omega]
theorem ywg1 {r : Rt} (h : coord r = true) : isRat (r.1 - r.2, r.2) = true ∧ subQ r (1, 1) = some (r.1 - r.2, r.2) ∧ yfb r (-1) = some (r.1 - r.2, r.2) := by
 have hr := yvd h
 obtain ⟨h1, h2, h3, h4, h5⟩ := isRat_iff.1 hr
 have c := yqt h
 have e : isRat (r.1 - r.2, r.2) = true := by
  refine isRat_iff.2 ⟨h1, h2, by show _ ≤ r.1 - r.2; omega, by show r.1 - r.2 ≤ _; omega, ?_⟩
  show Int.gcd (r.1 - r.2) r.2 = 1
  rw [show r.1 - r.2 = r.1 + (-1) * r.2 by omega, Int.gcd_add_mul_right_left]; exact h5
 refine ⟨e, ?_, ?_⟩
 ·have := ycd1 e
  unfold subQ; simp only [Int.mul_one, Int.one_mul]; exact this
 unfold yfb
 rw [yka (n := -1 * r.2) (by omega) (by omega), yka (by omega) (by omega)]
 congr 3
 omega
theorem yjy (h : LiftT n p) {x : Rt} (hx : near x = true) (hk : -2001 ≤ turnK (p 0).2 x ∧ turnK (p 0).2 x ≤ 2001) :
  ∃ r v, ygb (tab n p) x (p 0) (turnK (p 0).2 x) = some r ∧ ycb false (tab n p) x (p 0) (turnK (p 0).2 x, 1) (turnK (p 0).2 x) = some v ∧ (if v.2 = true then ((0, 0), false) else (v.1, true)) = r := by
 have h1 := h.cur.lo
 have h2 := h.cur.hi
 have hr := (yof hx).1
 have hw : isRat (turnK (p 0).2 x, 1) = true := yxe (by omega) (by omega)
 unfold ygb ycb
 simp only [yjb, Option.bind_some, yjf hr hw, yqi false hr hw]
 cases hs : subQ x (turnK (p 0).2 x, 1) with
 | none => exact ⟨_, _, rfl, rfl, rfl⟩
 | some z =>
  obtain ⟨hz, z1, z2⟩ := yuk1 hx h.near0 hs; rw [← h.lstY] at z2; have f0 := h.cur.fst; simp only [unO, cK, Bool.not_true, Bool.false_eq_true, if_false]; cases hl : less (p 0).2 z
  ·-- the start itself
   have hzy : z = (p 0).2 := ytk1 hz (h.cur.y 0 (by omega)).1 z1 hl
   obtain ⟨j, hj⟩ := yfd1 h; obtain ⟨l1, l2⟩ := ygd1 h hj; have hjl := hj.lt; have e1 : w64 ((n : Int) - 1) = ((n - 1 : Nat) : Int) := by rw [yka (by omega) (by omega)]; omega
   obtain ⟨s1, s2, s3⟩ := ywg1 (h.cur.x j hjl)
   have hadd := yng s1 hw; have iadd := ygn false s1 hw; rw [ydx h.cur hz (fun i hi => by rw [hzy]; exact h.le (Nat.zero_le i) hi)]
   simp only [Option.bind_some, Sum.elim_inr, yoc, beq_self_eq_true, Bool.and_self, if_true, yzd, e1, l1, l2, hzy, yze, yyd, yrb hjl, yxk, yqi false (yvd (h.cur.x j hjl)) yyx, s2, cK, iadd, yob, yjb, s3]
   have hat : (if decide ((j : Int) < ((n - 1 : Nat) : Int)) = true then (yvc ((p j).1.1 - (p j).1.2, (p j).1.2) (turnK (p 0).2 x, 1)).bind fun v15 => some v15 else (yvc ((p 0).1.1, (p 0).1.2) (turnK (p 0).2 x, 1)).bind fun v15 => some v15) = some (unO (addQ ((p j).1.1 - (p j).1.2, (p j).1.2) (turnK (p 0).2 x, 1))) := by
    by_cases hc : j < n - 1
    ·simp only [show ((j : Int) < ((n - 1 : Nat) : Int)) from by omega, decide_true, if_true, hadd, Option.bind_some]
    have : j = n - 1 := by omega
    subst this; simp only [show ¬ (((n - 1 : Nat) : Int) < ((n - 1 : Nat) : Int)) from by omega, decide_false, Bool.false_eq_true, if_false]; rw [h.cur.lst] at hadd ⊢
    rw [f0]; have hadd' : yvc (0, 1) (turnK (p 0).2 x, 1) = some (unO (addQ (1 - 1, 1) (turnK (p 0).2 x, 1))) := hadd
    rw [hadd']; rfl
   refine ⟨_, _, hat, rfl, ?_⟩
   cases addQ ((p j).1.1 - (p j).1.2, (p j).1.2) (turnK (p 0).2 x, 1) <;> rfl
  -- within a rising piece
  obtain ⟨J, hJ⟩ := yvk1 hl (ypg1 z2) h1
  have hp := hJ.pos; have hlt := hJ.lt; have hne : (z.1 == (p 0).2.1 && z.2 == (p 0).2.2) = false := by
   cases he : (z.1 == (p 0).2.1 && z.2 == (p 0).2.2)
   ·rfl
   exfalso
   simp only [Bool.and_eq_true, beq_iff_eq] at he; have : z = (p 0).2 := Prod.ext he.1 he.2
   rw [this] at hl; simp [less] at hl
  rw [ycx h.cur hz h.le hJ]; obtain ⟨v, b1, b2⟩ := yvv h.cur (i := J - 1) (by omega) hz false
  have eJ : w64 ((J : Int) - 1) = ((J - 1 : Nat) : Int) := by rw [yka (by omega) (by omega)]; omega
  have c3 := ysk1 (bad := v.2) (o := addQ v.1 (turnK (p 0).2 x, 1)) fun _ => yhl
  have b3 := ybx (g := fun t => addQ t (turnK (p 0).2 x, 1)) b2 c3
  have hix := yrg1 (n := n) (p := p) (fun x0 => yxc x0 z) (fun i => !less (p i).2 z) (fun i hi => by simp [yxc, ynf _ _ (ypc (h.cur.y i hi).1) (ypc hz)]) J hlt (by omega) (fun k hk => by simp [hJ.bef k hk]) (by simp [hJ.at'])
  simp only [hne, Bool.false_eq_true, if_false, yxd, hix, Option.bind_some, eJ, yrb (show J - 1 < n by omega), yrb hlt]; rw [show J - 1 + 1 = J by omega] at b1 b2 b3 ⊢
  simp only [b1, Option.bind_some, ygn _ b2.1 hw]; cases hb : backQ (p (J - 1)) (p J) z with
  | none =>
   rw [hb] at b3; have := b3.2
   simp only [Option.bind_none] at this; refine ⟨_, _, rfl, rfl, ?_⟩
   rw [this]; rfl
  | some t =>
   rw [hb] at b3; have ht : t ≠ (0, 1) := yvg1 h.cur (i := J - 1) (by omega) hz (hJ.bef (J - 1) (by omega)) (.inr (by rw [show J - 1 + 1 = J by omega]; exact hJ.at')) (by rw [show J - 1 + 1 = J by omega]; exact hb)
   have htr : isRat t = true := by
    unfold backQ at hb; obtain ⟨a, _, hb⟩ := Option.bind_eq_some_iff.1 hb; obtain ⟨b, _, hb⟩ := Option.bind_eq_some_iff.1 hb; exact yhl hb
   have hnt : (t.1 == (p 0).1.1 && t.2 == (p 0).1.2) = false := by
    cases he : (t.1 == (p 0).1.1 && t.2 == (p 0).1.2)
    ·rfl
    exfalso
    simp only [Bool.and_eq_true, beq_iff_eq, f0] at he; exact ht (Prod.ext he.1 he.2)
   have b4 := b3.2; simp only [Option.bind_some] at b4; refine ⟨unO (addQ t (turnK (p 0).2 x, 1)), _, ?_, rfl, ?_⟩
   ·simp only [Option.bind_some, Sum.elim_inr, yoc, hnt, Bool.false_eq_true, if_false, yob, yjb]
    rw [show (t.1, t.2) = t from rfl, yng htr hw]; rfl
   cases ha : addQ t (turnK (p 0).2 x, 1) with
   | none => rw [ha] at b4; simp only at b4; rw [b4]; rfl
   | some w => rw [ha] at b4; simp only at b4; rw [b4]; rfl
end
theorem ypw (f : List Pt) (x : Rt) (hl : f.length ≤ 4611686018427387904) : ∃ r, ysc f x = some r ∧ yci f x = some r := by
 obtain ⟨h1, h2⟩ := ydc f hl
 unfold ysc yci
 rw [h1, h2]
 cases hf : isLift f
 ·exact ⟨_, rfl, rfl⟩
 obtain ⟨n, p, rfl, hL⟩ := yhn hf
 simp only [Option.bind_some, Bool.not_true, Bool.false_eq_true, if_false, ywi, yfp]
 cases hx : near x
 ·exact ⟨_, rfl, rfl⟩
 have hn := hL.cur.lo
 have h0 := hL.near0
 have px := yxi (yof hx).1
 have py := yxi (yof h0).1
 have bx := yps hx
 have bY := yps h0
 obtain ⟨r, v, e1, e2, e3⟩ := yjy hL hx (yfc1 hx h0)
 unfold ypf
 rw [show (0 : Int) = ((0 : Nat) : Int) from rfl, yrb (show 0 < n by omega)]
 simp only [Bool.not_true, Bool.false_eq_true, if_false, Option.bind_some, px.spec, py.spec, px.impl, py.impl, ypk hx, ypk h0, yjl hx, yjl h0, yhe, ynf _ _ (ypc px.rat) (ypc py.rat), yfc _ _ (ypc px.rat) (ypc py.rat), yka (n := flr x - flr (p 0).2) (by omega) (by omega), yka (n := flr x - flr (p 0).2 - 1) (by omega) (by omega)]
 have e4 : ∀ m, decide (cmp (part x) (part (p 0).2) < ((0 : Nat) : Int)) = m → less (part x) (part (p 0).2) = m := fun m h => by rw [← yhe1]; exact h
 cases hm : decide (cmp (part x) (part (p 0).2) < ((0 : Nat) : Int))
 all_goals
  have e5 := e4 _ hm; rw [e5]; unfold turnK at e1 e2
  simp only [e5, Bool.false_eq_true, if_false, if_true] at e1 e2 ⊢
 ·rw [e1]
  refine ⟨r, rfl, ?_⟩
  have e6 : ycb false (tab n p) x (p 0) (flr x - flr (p 0).2, 1) (flr x - flr (p 0).2) = some v := e2
  rw [e6, ← e3]; simp only [Option.bind_some]; cases v.2 <;> rfl
 rw [e1]
 refine ⟨r, rfl, ?_⟩
 have e6 : ycb false (tab n p) x (p 0) (flr x - flr (p 0).2, 1) (flr x - flr (p 0).2 - 1) = some v := e2
 rw [e6, ← e3]
 simp only [Option.bind_some]
 cases v.2 <;> rfl
end Go.PV

/-
 Plain laws: what fractions stand for.
 Conditions: none.
-/
set_option linter.all false
namespace Go.PV
def val (r : Rt) : Rat := (r.1 : Rat) / (r.2 : Rat)
theorem yom {d : Int} (h : 0 < d) : (0 : Rat) < (d : Rat) := by exact_mod_cast h
theorem yog {r : Rt} (h : 0 < r.2) : val r * (r.2 : Rat) = (r.1 : Rat) := by
 have := yom h
 unfold val
 have h2 : (r.2 : Rat) ≠ 0 := by intro h3; rw [h3] at this; exact absurd this (by decide)
 grind
theorem yrm1 {a b c d : Int} (hb : 0 < b) (hd : 0 < d) {x y : Rat} (hx : x * (b : Rat) = (a : Rat)) (hy : y * (d : Rat) = (c : Rat)) : a * d < c * b ↔ x < y := by
 have pb := yom hb
 have pd := yom hd
 have e : ((a * d : Int) : Rat) < ((c * b : Int) : Rat) ↔ a * d < c * b := by exact_mod_cast Iff.rfl
 rw [← e, Rat.intCast_mul, Rat.intCast_mul, ← hx, ← hy]
 constructor
 ·intro h
  refine Classical.byContradiction fun hno => ?_
  have h1 : y ≤ x := by grind
  have h2 := Rat.mul_le_mul_of_nonneg_left h1 (Rat.le_of_lt (Rat.mul_pos pb pd))
  grind
 intro h
 have h2 := Rat.mul_lt_mul_of_pos_left h (Rat.mul_pos pb pd)
 grind
theorem ywv {a b : Rt} (ha : 0 < a.2) (hb : 0 < b.2) : less a b = true ↔ val a < val b := by
 rw [← yrm1 ha hb (yog ha) (yog hb)]
 simp [less]
theorem yin {a b : Rt} (ha : 0 < a.2) (hb : 0 < b.2) : less a b = false ↔ val b ≤ val a := by
 have := ywv ha hb
 cases h : less a b
 ·rw [h] at this
  have : ¬ val a < val b := fun h1 => by have := this.2 h1; cases this
  exact ⟨fun _ => by grind, fun _ => rfl⟩
 rw [h] at this
 have := this.1 rfl
 exact ⟨fun h => (by cases h), fun h => (by grind)⟩
theorem yky {n d : Int} (hd : 0 < d) {r : Rt} (h : lowQ n d = some r) : val r * (d : Rat) = (n : Rat) := by
 obtain ⟨e, hp⟩ := yug1 hd h
 have h2 := yog (r := r) (by omega)
 have p2 := yom (d := r.2) (by omega)
 have pd := yom hd
 have e2 : (r.1 : Rat) * (d : Rat) = (n : Rat) * (r.2 : Rat) := by exact_mod_cast e
 have h3 : (r.2 : Rat) ≠ 0 := by intro h3; rw [h3] at p2; exact absurd p2 (by decide)
 rw [← h2] at e2
 grind
theorem ne0 {d : Int} (h : 0 < d) : (d : Rat) ≠ 0 := by
 have := yom h
 intro h3; rw [h3] at this; exact absurd this (by decide)
section
variable {a b r : Rt} (ha : isRat a = true) (hb : isRat b = true)
include ha hb
theorem yhr (h : addQ a b = some r) : val r = val a + val b := by
 have a2 := (isRat_iff.1 ha).1
 have b2 := (isRat_iff.1 hb).1
 have e := yky (yga1 ha hb) h
 have e1 := yog (r := a) (by omega)
 have e2 := yog (r := b) (by omega)
 have n1 := ne0 (d := a.2) (by omega)
 have n2 := ne0 (d := b.2) (by omega)
 rw [Rat.intCast_add, Rat.intCast_mul, Rat.intCast_mul, Rat.intCast_mul, ← e1, ← e2] at e
 grind
theorem yhp (h : subQ a b = some r) : val r = val a - val b := by
 have a2 := (isRat_iff.1 ha).1
 have b2 := (isRat_iff.1 hb).1
 have e := yky (yga1 ha hb) h
 have e1 := yog (r := a) (by omega)
 have e2 := yog (r := b) (by omega)
 have n1 := ne0 (d := a.2) (by omega)
 have n2 := ne0 (d := b.2) (by omega)
 rw [Rat.intCast_sub, Rat.intCast_mul, Rat.intCast_mul, Rat.intCast_mul, ← e1, ← e2] at e
 grind
theorem ysm1 (h : mulQ a b = some r) : val r = val a * val b := by
 have a2 := (isRat_iff.1 ha).1
 have b2 := (isRat_iff.1 hb).1
 have e := yky (yga1 ha hb) h
 have e1 := yog (r := a) (by omega)
 have e2 := yog (r := b) (by omega)
 have n1 := ne0 (d := a.2) (by omega)
 have n2 := ne0 (d := b.2) (by omega)
 rw [Rat.intCast_mul, Rat.intCast_mul, ← e1, ← e2] at e
 grind
theorem ygc1 (hp : 0 < b.1) (h : divQ a b = some r) : val r * val b = val a := by
 have a2 := (isRat_iff.1 ha).1
 have b2 := (isRat_iff.1 hb).1
 unfold divQ at h
 rw [if_neg (by omega)] at h
 have e := yky (Int.mul_pos (by omega) hp) h
 have e1 := yog (r := a) (by omega)
 have e2 := yog (r := b) (by omega)
 have n1 := ne0 (d := a.2) (by omega)
 have n2 := ne0 (d := b.2) (by omega)
 rw [Rat.intCast_mul, Rat.intCast_mul, ← e1, ← e2] at e
 grind
end
theorem ytm1 {r : Rt} (hr : isRat r = true) : isUnit r = true ↔ (0 : Rat) ≤ val r ∧ val r ≤ 1 := by
 have r2 := (isRat_iff.1 hr).1
 have e := yog (r := r) (by omega)
 have p := yom (d := r.2) (by omega)
 simp only [isUnit, Bool.and_eq_true, inB_iff, hr, true_and]
 have h1 := yrm1 (a := r.1) (b := r.2) (c := 0) (d := 1) (x := val r) (y := 0) (by omega) (by omega) e (by simp)
 have h2 := yrm1 (a := 1) (b := 1) (c := r.1) (d := r.2) (x := 1) (y := val r) (by omega) (by omega) (by simp) e
 constructor
 ·intro ⟨h3, h4⟩
  constructor
  ·refine Classical.byContradiction fun hno => ?_
   have := h1.2 (by grind)
   omega
  refine Classical.byContradiction fun hno => ?_
  have := h2.2 (by grind)
  omega
 intro ⟨h3, h4⟩
 constructor
 ·refine Classical.byContradiction fun hno => ?_
  have := h1.1 (by omega)
  grind
 refine Classical.byContradiction fun hno => ?_
 have := h2.1 (by omega)
 grind
end Go.PV

/-
 Plain laws: the laps of a map.
 Conditions: none.
-/
set_option linter.all false
namespace Go.PV
abbrev Trip := Nat × Nat × Int
def encT (t : Trip) : List Int := [(t.1 : Int), (t.2.1 : Int), t.2.2]
def lapStep (l : List Trip) (i : Nat) (s : Int) : List Trip := match l.getLast? with
 | some t => if t.2.2 = s then l.dropLast ++ [(t.1, i + 1, s)] else l ++ [(i, i + 1, s)]
 | none => l ++ [(i, i + 1, s)]
def lapsN (σ : Nat → Int) : Nat → List Trip
 | 0 => []
 | i + 1 => lapStep (lapsN σ i) i (σ i)
structure LapInv (σ : Nat → Int) (i : Nat) : Prop where
 len : (lapsN σ i).length ≤ i
 ne : 0 < i → lapsN σ i ≠ []
 bd : ∀ t ∈ lapsN σ i, t.1 < t.2.1 ∧ t.2.1 ≤ i
def sg (n : Int) : Int := if 0 < n then 1 else if n < 0 then -1 else 0
section
variable {m : Nat} {r : Nat → Rt}
end
section
variable {n : Nat} {p : Nat → Pt}
def wayOf (p : Nat → Pt) : Nat → Int := fun i => sg (slopeQ (p i) (p (i + 1))).1
def lapsT (n : Nat) (p : Nat → Pt) : List Trip := lapsN (wayOf p) (n - 1)
end
def lbN (c : Int) : Nat → Int → Int × Bool
 | 0, o => (o, true)
 | k + 1, o => if o * c > 1000000000 then (0, false) else lbN c k (o * c)
def fullB (a b : Rt) : Bool := (a == (0, 1) && b == (1, 1)) || (a == (1, 1) && b == (0, 1))
section
variable {n : Nat} {p : Nat → Pt}
def fullN (p : Nat → Pt) (l : List Trip) : Nat := (l.filter fun t => fullB (p t.1).2 (p t.2.1).2).length
end
end Go.PV

/-
 Plain laws: marks on lists, and that they are held.
 Conditions: none.
-/
set_option linter.all false
namespace Go.PV
section
variable {α : Type}
def marks (w : Nat) (f : Int → α) (n : Nat) (k : Int) : List α := tab n fun i => f (k + (w : Int) * i)
end
def markI (n : Nat) (k : Int) : List Int := marks 1 (fun c => c) n k
def markR (n : Nat) (k : Int) : List (Int × Int) := marks 2 (fun c => (c, c + 1)) n k
end Go.PV

/-
 Plain laws: values of the turning point.
 Conditions: none.
-/
set_option linter.all false
namespace Go.PV
section
variable {n : Nat} {p : Nat → Pt}
noncomputable def vQ (n : Nat) (p : Nat → Pt) (c : Rt) : Nat → Option Rt
 | 0 => some c
 | k + 1 => (vQ n p c k).bind (atQ n p)
noncomputable def vv (n : Nat) (p : Nat → Pt) (c : Rt) (k : Nat) : Rt := (vQ n p c k).getD (0, 0)
variable {c : Rt}
structure Stop (n : Nat) (p : Nat → Pt) (c : Rt) (m L : Nat) : Prop where
 le : L ≤ m
 some : vQ n p c L = some (vv n p c L)
 stop : L = m ∨ vQ n p c (L + 1) = none
end
section
variable {n : Nat} {p : Nat → Pt} {t0 t1 : Trip}
end
end Go.PV

set_option linter.all false
namespace Go.PV
def flatP (xs : List Pt) (n : Nat) : Prop := ∃ i a b, 0 < i ∧ i < n ∧ xs[i - 1]? = some a ∧ xs[i]? = some b ∧ a.2 = b.2
end Go.PV

/-
 Plain laws: plateaus.
 Conditions: none.
-/
set_option linter.all false
namespace Go.PV
def markV (n : Nat) (k : Int) : List Pt := marks 4 (fun c => ((c, c + 1), (c + 1 + 1, c + 1 + 1 + 1))) n k
theorem yfq1 (xs : List Pt) (s : List Pt × Int) (hs : s.1.length ≤ 4611686018427387904) : yxa xs s = ytd xs s := by
 unfold yxa ytd
 have : decide (w64 ((s.1.length : Int) - 1) ≥ 0) = decide ((s.1.length : Int) > 0) := by
  rw [yka (by omega) (by omega)]; by_cases h : (s.1.length : Int) > 0
  ·rw [decide_eq_true h, decide_eq_true (by omega)]
  rw [decide_eq_false h, decide_eq_false (by omega)]
 rw [this]
theorem yum1 (xs : List Pt) (hl : xs.length ≤ 1048576) : ∃ y, y.length ≤ 1048576 ∧ loopO (yxa xs) ([], 1) = some y ∧ loopO (ytd xs) ([], 1) = some y := by
 by_cases h2 : 1 ≤ xs.length
 ·have step : ∀ (l : List Pt) (i : Nat), 1 ≤ i → i < xs.length → l.length < i → ∃ l', l'.length ≤ i ∧ yxa xs (l, (i : Int)) = some (.inl (l', ((i + 1 : Nat) : Int))) := by
   intro l i hi0 hlt hlen; obtain ⟨p, hp⟩ : ∃ p, xs[i]? = some p := ⟨xs[i], List.getElem?_eq_getElem hlt⟩
   have hw : w64 ((i : Int) - 1) = ((i - 1 : Nat) : Int) := by rw [yka (by omega) (by omega)]; omega
   have hlt2 : i - 1 < xs.length := by omega
   obtain ⟨q, hq⟩ : ∃ q, xs[i - 1]? = some q := ⟨xs[i - 1], List.getElem?_eq_getElem hlt2⟩
   unfold yxa; simp only [show ((i : Int) < (xs.length : Int)) from by omega, decide_true, if_true, hw, ylm, hp, hq, Option.bind_some, yzx]; have hw2 : w64 ((i : Int) + 1) = ((i + 1 : Nat) : Int) := ywe (show i < 9223372036854775807 by omega)
   by_cases he : q.2 = p.2
   ·have hb : (q.2 == p.2) = true := by simpa using he
    simp only [hb, Bool.not_true, Bool.false_eq_true, if_false]; by_cases h0 : l = []
    ·subst h0
     have : w64 (((([] : List Pt).length : Nat) : Int) - 1) = -1 := by rw [yka (by simp) (by simp)]; simp
     refine ⟨[(q.1, p.1)], by simp; omega, ?_⟩
     simp only [this]; rw [yzz (by simp)]; simp [hw2]
    have hl0 : 0 < l.length := List.length_pos_iff.2 h0
    have hwl : w64 ((l.length : Int) - 1) = ((l.length - 1 : Nat) : Int) := by rw [yka (by omega) (by omega)]; omega
    have hge : ((l.length - 1 : Nat) : Int) ≥ 0 := by omega
    have hll : l.length - 1 < l.length := by omega
    obtain ⟨z, hz⟩ : ∃ z, l[l.length - 1]? = some z := ⟨l[l.length - 1], List.getElem?_eq_getElem hll⟩
    simp only [hwl, hge, decide_true, if_true, ylm, hz, Option.bind_some]; generalize (z.2 == q.1) = tt
    cases tt
    ·refine ⟨l ++ [(q.1, p.1)], by simp; omega, ?_⟩
     simp only [Bool.false_eq_true, if_false]; rw [yzz (by simp; omega)]
     simp [hw2]
    refine ⟨l.set (l.length - 1) (z.1, p.1), by simp; omega, ?_⟩
    simp [hw2]
   have hb : (q.2 == p.2) = false := by simpa using he
   refine ⟨l, by omega, ?_⟩
   simp [hb, hw2]
  -- the lists, step by step
  let F : Nat → List Pt := fun k => Nat.rec [] (fun k l => match yxa xs (l, ((k + 1 : Nat) : Int)) with | some (.inl s) => s.1 | _ => []) k
  have hF : ∀ k, k + 1 ≤ xs.length → (F k).length ≤ k ∧ (k + 1 < xs.length → yxa xs (F k, ((k + 1 : Nat) : Int)) = some (.inl (F (k + 1), ((k + 1 + 1 : Nat) : Int)))) := by
   intro k; induction k with
   | zero =>
    intro _; refine ⟨Nat.le_refl _, fun hk => ?_⟩
    obtain ⟨l', _, h4⟩ := step (F 0) 1 (by omega) (by omega) (Nat.zero_lt_one)
    have : F (0 + 1) = l' := by show (match yxa xs (F 0, ((0 + 1 : Nat) : Int)) with | some (.inl s) => s.1 | _ => []) = l'; rw [show (0 + 1 : Nat) = 1 from rfl, h4]
    rw [this]; exact h4
   | succ k ih =>
    intro hk; obtain ⟨h3, h4⟩ := ih (by omega)
    have h4 := h4 (by omega)
    obtain ⟨l', h5, h6⟩ := step (F k) (k + 1) (by omega) (by omega) (by omega)
    have hl' : F (k + 1) = l' := by
     rw [h4] at h6; simp only [Option.some.injEq, Sum.inl.injEq, Prod.mk.injEq] at h6; exact h6.1
    have hlen : (F (k + 1)).length ≤ k + 1 := by rw [hl']; exact h5
    refine ⟨hlen, fun hk2 => ?_⟩
    obtain ⟨l2, _, h8⟩ := step (F (k + 1)) (k + 1 + 1) (by omega) (by omega) (by omega)
    have : F (k + 1 + 1) = l2 := by show (match yxa xs (F (k + 1), ((k + 1 + 1 : Nat) : Int)) with | some (.inl s) => s.1 | _ => []) = l2; rw [h8]
    rw [this]; exact h8
  have fin : ∀ (body : List Pt × Int → Option ((List Pt × Int) ⊕ List Pt)), (∀ s : List Pt × Int, s.1.length ≤ 1048576 → yxa xs s = body s) → loopO body ([], 1) = some (F (xs.length - 1)) := by
   intro body hb; obtain ⟨y, h5, h6⟩ := ygr (body := body) (fun s => ∃ k : Nat, k + 1 ≤ xs.length ∧ s = (F k, ((k + 1 : Nat) : Int))) (fun s => xs.length - s.2.toNat) (fun y => y = F (xs.length - 1)) (by
    rintro _ ⟨k, hk, rfl⟩
    obtain ⟨h3, h4⟩ := hF k hk; by_cases hlt : k + 1 < xs.length
    ·refine .inl ⟨(F (k + 1), ((k + 1 + 1 : Nat) : Int)), ?_, ⟨k + 1, by omega, rfl⟩, by simp only; omega⟩
     rw [← hb _ (by show (F k).length ≤ _; omega)]
     exact h4 hlt
    refine .inr ⟨F k, ?_, by rw [show xs.length - 1 = k by omega]⟩
    rw [← hb _ (by show (F k).length ≤ _; omega)]
    have : ¬ (((k + 1 : Nat) : Int) < (xs.length : Int)) := by omega
    simp only [yxa, this, decide_false, Bool.false_eq_true, if_false]) ([], 1) ⟨0, by omega, rfl⟩
   rw [h5, h6]
  exact ⟨F (xs.length - 1), by have := (hF (xs.length - 1) (by omega)).1; omega, fin _ fun _ _ => rfl, fin _ fun s hs => yfq1 xs s (by omega)⟩
 have h0 : xs = [] := by
  cases xs with
  | nil => rfl
  | cons a l => simp at h2
 subst h0
 refine ⟨[], by simp, ?_, ?_⟩ <;> rw [yar] <;> simp [yxa, ytd]
end Go.PV

/-
 Plain laws: orbits of lifts.
 Conditions: none.
-/
set_option linter.all false
namespace Go.PV
section
variable {n : Nat} {p : Nat → Pt} {x : Rt}
noncomputable def orbQ (n : Nat) (p : Nat → Pt) (x : Rt) : Nat → Option Rt
 | 0 => some x
 | k + 1 => (orbQ n p x k).bind fun y => if near y = true then liftQ n p y else none
noncomputable def orb (n : Nat) (p : Nat → Pt) (x : Rt) (k : Nat) : Rt := (orbQ n p x k).getD (0, 0)
open Classical in
noncomputable def runR (n : Nat) (p : Nat → Pt) (x : Rt) (m : Nat) : List Rt × Bool := if (orbQ n p x m).isSome = true then (tab (m + 1) (orb n p x), true) else ([], false)
end
def turnB (r : Rt) : Bool := near r && decide (r.2 ≤ 6)
end Go.PV

/-
 Plain laws: orbits of lifts, handed back.
 Conditions: none.
-/
set_option linter.all false
namespace Go.PV
end Go.PV

/-
 Plain laws: how far a lift's points are moved.
 Conditions: none.
-/
set_option linter.all false
namespace Go.PV
def dispF (p : Nat → Pt) (i : Nat) : Rt := (subQ (p i).2 (p i).1).getD (0, 0)
section
variable {n : Nat} {p : Nat → Pt}
theorem ydq (h : Curve n p) {i : Nat} (hi : i < n) : subQ (p i).2 (p i).1 = some (dispF p i) ∧ isRat (dispF p i) = true := by
 obtain ⟨r, _, e, _⟩ := ycy (h.y i hi) (yrt (h.x i hi))
 have : dispF p i = r := by unfold dispF; rw [e]; rfl
 rw [this]
 exact ⟨e, yfo e⟩
theorem ydu (h : Curve n p) : ybi false (tab n p) = some (mnN (dispF p) n, mxN (dispF p) n, false) := by
 have h1 := h.lo
 have h2 := h.hi
 have hr : ∀ i, i < n → isRat (dispF p i) = true := fun i hi => (ydq h hi).2
 have hx := yae (body := yqd (tab n p)) n (fun i => (false, tab i (dispF p), (i : Int))) (false, tab n (dispF p)) (fun i hi => by
  simp only [yqd, yzd, yrb hi, Option.bind_some, show ((i : Int) < (n : Int)) from by omega, decide_true, if_true, yqi false (h.y i hi).1 (yvd (h.x i hi)), (ydq h hi).1, cK, ywe (show i < 9223372036854775807 by omega)]
  rw [yda (by simp; omega), ← ymm1 i (dispF p)]) (by simp [yqd, yzd])
 have hx' : loopO (yqd (tab n p)) (false, [], 0) = some (false, tab n (dispF p)) := hx
 unfold ybi
 rw [hx', Option.bind_some]
 simp only [ygh, ysg1 (show 1 ≤ n by omega) (show n ≤ 1048576 by omega) hr, ytg1 (show 1 ≤ n by omega) (show n ≤ 1048576 by omega) hr, Option.bind_some]
theorem yjj1 (h : Curve n p) (hs : yzc (tab n p) = some true) (hi : ync (tab n p) = some true) : ∃ r, yrd (tab n p) = some r ∧ yyb (tab n p) = some r := by
 have h1 := h.lo
 have h2 := h.hi
 have hr : ∀ i, i < n → isRat (dispF p i) = true := fun i hi => (ydq h hi).2
 refine ⟨(mnN (dispF p) n, mxN (dispF p) n, true), ?_, by unfold yyb; rw [hi]; simp [ydu h]⟩
 have hx := yae (body := yec (tab n p)) n (fun i => ((mnN (dispF p) i).1, (mnN (dispF p) i).2, (mxN (dispF p) i).1, (mxN (dispF p) i).2, (i : Int))) ((mnN (dispF p) n).1, (mnN (dispF p) n).2, (mxN (dispF p) n).1, (mxN (dispF p) n).2) (fun i hi => by
  have b := yec1 (hr 0 (by omega)) hr i (by omega)
  simp only [yec, yzd, yrb hi, Option.bind_some, show ((i : Int) < (n : Int)) from by omega, decide_true, if_true, ywe (show i < 9223372036854775807 by omega), yjf (h.y i hi).1 (yvd (h.x i hi)), (ydq h hi).1, unO]
  rw [show ((mnN (dispF p) i).1, (mnN (dispF p) i).2) = mnN (dispF p) i from rfl, show ((mxN (dispF p) i).1, (mxN (dispF p) i).2) = mxN (dispF p) i from rfl, ygy _ _ b.1 (hr i hi), yru _ _ b.2 (hr i hi)]
  simp only [Option.bind_some, yey, yfy]) (by simp [yec, yzd])
 have hx' : loopO (yec (tab n p)) ((dispF p 0).1, (dispF p 0).2, (dispF p 0).1, (dispF p 0).2, 0) = some ((mnN (dispF p) n).1, (mnN (dispF p) n).2, (mxN (dispF p) n).1, (mxN (dispF p) n).2) := hx
 unfold yrd
 rw [hs]
 simp only [Option.bind_some, Bool.not_true, Bool.false_eq_true, if_false]
 rw [show (0 : Int) = ((0 : Nat) : Int) from rfl, yrb (show 0 < n by omega), Option.bind_some, yjf (h.y 0 (by omega)).1 (yvd (h.x 0 (by omega))), (ydq h (show 0 < n by omega)).1]
 simp only [unO, Option.bind_some]
 rw [show ((0 : Nat) : Int) = 0 from rfl, hx']
 rfl
end
end Go.PV

/-
 Plain laws: values of lifts keep their order.
 Conditions: none.
-/
set_option linter.all false
namespace Go.PV
theorem ykj1 {a b : Rt} (ga : Int.gcd a.1 a.2 = 1) (gb : Int.gcd b.1 b.2 = 1) (pa : 0 < a.2) (pb : 0 < b.2) (h : a.1 * b.2 = b.1 * a.2) : a = b := by
 obtain ⟨p, q⟩ := a
 obtain ⟨r, s⟩ := b
 simp only at *
 have hn : p.natAbs * s.natAbs = r.natAbs * q.natAbs := by rw [← Int.natAbs_mul, ← Int.natAbs_mul, h]
 have c1 : Nat.Coprime p.natAbs q.natAbs := ga
 have c2 : Nat.Coprime r.natAbs s.natAbs := gb
 have d1 : s.natAbs ∣ q.natAbs := by
  have : s.natAbs ∣ r.natAbs * q.natAbs := ⟨p.natAbs, by rw [← hn]; exact Nat.mul_comm _ _⟩
  exact c2.symm.dvd_of_dvd_mul_left this
 have d2 : q.natAbs ∣ s.natAbs := by
  have : q.natAbs ∣ p.natAbs * s.natAbs := ⟨r.natAbs, by rw [hn]; exact Nat.mul_comm _ _⟩
  exact c1.symm.dvd_of_dvd_mul_left this
 have hqs : q.natAbs = s.natAbs := Nat.dvd_antisymm d2 d1
 have hq : q = s := by omega
 subst hq
 have : p = r := Int.eq_of_mul_eq_mul_right (by omega) h
 rw [this]
theorem yxg1 {a b : Rt} (ha : isRat a = true) (hb : isRat b = true) (h : val a = val b) : a = b := by
 have a2 := (isRat_iff.1 ha).1
 have b2 := (isRat_iff.1 hb).1
 have e1 := yog (r := a) (by omega)
 have e2 := yog (r := b) (by omega)
 refine yyb1 ha hb ?_
 have : ((a.1 * b.2 : Int) : Rat) = ((b.1 * a.2 : Int) : Rat) := by
  rw [Rat.intCast_mul, Rat.intCast_mul, ← e1, ← e2, h]; grind
 exact_mod_cast this
section
variable {n : Nat} {p : Nat → Pt}
theorem yvl {r : Rt} (h : isRat r = true) : 0 < r.2 := by have := (isRat_iff.1 h).1; omega
theorem Curve.xr (h : Curve n p) {i : Nat} (hi : i < n) : isRat (p i).1 = true := yvd (h.x i hi)
theorem Curve.yr (h : Curve n p) {i : Nat} (hi : i < n) : isRat (p i).2 = true := (h.y i hi).1
theorem Curve.xlt (h : Curve n p) : ∀ {i j : Nat}, i < j → j < n → val (p i).1 < val (p j).1 := by
 intro i j hij hj
 obtain ⟨k, rfl⟩ : ∃ k, j = i + 1 + k := ⟨j - (i + 1), by omega⟩
 induction k with
 | zero =>
  have := h.up (i + 1) (by omega) hj
  rw [show i + 1 - 1 = i by omega] at this; exact (ywv (yvl (h.xr (by omega))) (yvl (h.xr hj))).1 this
 | succ k ih =>
  have h1 := ih (by omega) (by omega)
  have := h.up (i + 1 + (k + 1)) (by omega) hj
  rw [show i + 1 + (k + 1) - 1 = i + 1 + k by omega] at this; have h2 := (ywv (yvl (h.xr (by omega))) (yvl (h.xr hj))).1 this
  grind
structure OnP (p : Nat → Pt) (m : Nat) (x y : Rt) : Prop where
 lo : val (p m).1 ≤ val x
 hi : val x ≤ val (p (m + 1)).1
 eq : (val y - val (p m).2) * (val (p (m + 1)).1 - val (p m).1) = (val (p (m + 1)).2 - val (p m).2) * (val x - val (p m).1)
theorem yis1 (h : Curve n p) {x y : Rt} (hx : isUnit x = true) {j : Nat} (hj : AtJ n p x j) (hy : atQ n p x = some y) : j - 1 + 1 < n ∧ OnP p (j - 1) x y := by
 have hr : isRat x = true := by simp only [isUnit, Bool.and_eq_true] at hx; exact hx.1
 have hlt := hj.lt
 have hn := h.lo
 have hj1 : j - 1 + 1 < n := by omega
 refine ⟨hj1, ?_⟩
 have hu := (ytm1 hr).1 hx
 have f0 : val (p 0).1 = 0 := by rw [h.fst]; show ((0 : Int) : Rat) / ((1 : Int) : Rat) = 0; grind
 have lo : val (p (j - 1)).1 ≤ val x := by
  by_cases h0 : j = 0
  ·subst h0; show val (p 0).1 ≤ val x; rw [f0]; exact hu.1
  have := (ywv (yvl (h.xr (show j - 1 < n by omega))) (yvl hr)).1 (hj.bef (j - 1) (by omega))
  grind
 have hi : val x ≤ val (p (j - 1 + 1)).1 := by
  have h1 := (yin (yvl (h.xr hlt)) (yvl hr)).1 hj.at'
  by_cases h0 : j = 0
  ·subst h0
   have := h.xlt (i := 0) (j := 0 - 1 + 1) (by omega) hj1
   grind
  rw [show j - 1 + 1 = j by omega]; exact h1
 refine ⟨lo, hi, ?_⟩
 rw [yqm1 hj] at hy
 obtain ⟨u, v, hs⟩ := h.piece hj1
 unfold onQ at hy
 obtain ⟨far, e1, hy⟩ := Option.bind_eq_some_iff.1 hy
 obtain ⟨up, e2, hy⟩ := Option.bind_eq_some_iff.1 hy
 have v1 := yhp hr (h.xr (show j - 1 < n by omega)) e1
 have v2 := ysm1 hs.rs (yfo e1) e2
 have v3 := yhr (h.yr (show j - 1 < n by omega)) (yzb1 e2) hy
 have v4 := yhp (h.yr hj1) (h.yr (show j - 1 < n by omega)) hs.up
 have v5 := yhp (h.xr hj1) (h.xr (show j - 1 < n by omega)) hs.far
 have v6 := ygc1 hs.ru hs.rv hs.vp hs.div
 rw [v4, v5] at v6
 rw [v3, v2, v1, ← v6]
 grind
theorem yho (k : Int) : val (k, 1) = (k : Rat) := by show (k : Rat) / ((1 : Int) : Rat) = (k : Rat); grind
theorem yhc1 {x : Rt} (hx : isRat x = true) : val (part x) = val x - (flr x : Rat) := by
 have hp := yvl hx
 have e1 := yog (r := x) hp
 have e2 : val (part x) * (x.2 : Rat) = ((x.1 - flr x * x.2 : Int) : Rat) := yog (r := part x) hp
 have n0 := ne0 hp
 rw [Rat.intCast_sub, Rat.intCast_mul, ← e1] at e2
 grind
end
end Go.PV

/-
 Plain laws: FnLifts: the value at a fraction before a value; the value one further.
 Conditions: none.
-/
set_option linter.all false
namespace Go.PV
theorem yia1 {k m x d : Int} (hd : 0 < d) (h1 : k * d ≤ x) (h2 : x < k * d + d) (h3 : m * d ≤ x) (h4 : x < m * d + d) : k = m := by
 refine Classical.byContradiction fun hne => ?_
 rcases Int.lt_or_gt_of_ne hne with h | h
 ·have : (k + 1) * d ≤ m * d := Int.mul_le_mul_of_nonneg_right (by omega) (by omega)
  rw [Int.add_mul] at this; omega
 have : (m + 1) * d ≤ k * d := Int.mul_le_mul_of_nonneg_right (by omega) (by omega)
 rw [Int.add_mul] at this; omega
theorem yjs1 {x : Rt} (hx : isRat x = true) {k : Int} (h1 : (k : Rat) ≤ val x) (h2 : val x < (k : Rat) + 1) : flr x = k := by
 have hp := yvl hx
 have b := (yxi hx).bd
 have e := yog (r := x) hp
 have hd := yom hp
 refine yia1 hp b.1 b.2 ?_ ?_
 ·have : (k : Rat) * (x.2 : Rat) ≤ (x.1 : Rat) := by rw [← e]; exact Rat.mul_le_mul_of_nonneg_right h1 (Rat.le_of_lt hd)
  exact_mod_cast this
 have : (x.1 : Rat) < ((k : Rat) + 1) * (x.2 : Rat) := by rw [← e]; exact Rat.mul_lt_mul_of_pos_right h2 hd
 have h3 : ((k : Rat) + 1) * (x.2 : Rat) = ((k * x.2 + x.2 : Int) : Rat) := by rw [Rat.intCast_add, Rat.intCast_mul]; grind
 rw [h3] at this
 exact_mod_cast this
section
variable {n : Nat} {p : Nat → Pt}
theorem Curve.x0 (h : Curve n p) : val (p 0).1 = 0 := by rw [h.fst]; show ((0 : Int) : Rat) / ((1 : Int) : Rat) = 0; grind
theorem Curve.x1 (h : Curve n p) : val (p (n - 1)).1 = 1 := by rw [h.lst]; show ((1 : Int) : Rat) / ((1 : Int) : Rat) = 1; grind
theorem LiftT.y1 (h : LiftT n p) : val (p (n - 1)).2 = val (p 0).2 + 1 := by
 have hp := yvl (h.cur.yr (show 0 < n by have := h.cur.lo; omega))
 have e := yog (r := (p 0).2) hp
 have n0 := ne0 hp
 rw [h.lstY]
 show (((p 0).2.1 + (p 0).2.2 : Int) : Rat) / ((p 0).2.2 : Rat) = _
 rw [Rat.intCast_add, ← e]
 grind
theorem ywk1 (h : LiftT n p) {m : Nat} (hm : m + 1 < n) : OnP p m (p m).1 (p m).2 := by
 have := h.cur.xlt (show m < m + 1 by omega) hm
 exact ⟨Rat.le_refl, by grind, by grind⟩
theorem yct1 (h : LiftT n p) {m : Nat} (hm : m + 1 < n) {t z a : Rt} (ht : isUnit t = true) (hon : OnP p m t z) (ha : atQ n p t = some a) : val a = val z := by
 obtain ⟨j, hj⟩ := yes1 h.cur ht
 obtain ⟨hj1, ho⟩ := yis1 h.cur ht hj ha
 generalize j - 1 = i at hj1 ho
 have dm := h.cur.xlt (show m < m + 1 by omega) hm
 have di := h.cur.xlt (show i < i + 1 by omega) hj1
 have e1 := hon.eq
 have e2 := ho.eq
 have l1 := hon.lo
 have l2 := hon.hi
 have l3 := ho.lo
 have l4 := ho.hi
 have lin : ∀ {u v x0 x1 y0 y1 t : Rat}, 0 < x1 - x0 → (u - y0) * (x1 - x0) = (y1 - y0) * (t - x0) → t = x0 → u = y0 := fun hd he ht => by
  subst ht; have := Rat.mul_eq_zero.1 (show (_ - _) * (_ - _) = (0 : Rat) by rw [he]; grind)
  grind
 have lin1 : ∀ {u v x0 x1 y0 y1 t : Rat}, 0 < x1 - x0 → (u - y0) * (x1 - x0) = (y1 - y0) * (t - x0) → t = x1 → u = y1 := fun {u v x0 x1 y0 y1 t} hd he ht => by
  subst ht; have := Rat.mul_eq_zero.1 (show (u - y1) * (t - x0) = (0 : Rat) by grind)
  grind
 rcases Nat.lt_trichotomy i m with hlt | heq | hgt
 ·have hx : val (p (i + 1)).1 ≤ val (p m).1 := by
   by_cases hc : i + 1 = m
   ·rw [hc]; exact Rat.le_refl
   have := h.cur.xlt (show i + 1 < m by omega) (by omega); grind
  have hmi : i + 1 = m := by
   refine Classical.byContradiction fun hc => ?_
   have := h.cur.xlt (show i + 1 < m by omega) (by omega)
   grind
  subst hmi; have z1 := lin (v := 0) (by grind) e1 (by grind)
  have a1 := lin1 (v := 0) (by grind) e2 (by grind)
  rw [z1, a1]
 ·subst heq
  have : (val a - val z) * (val (p (i + 1)).1 - val (p i).1) = 0 := by grind
  have := Rat.mul_eq_zero.1 this
  grind
 have hmi : m + 1 = i := by
  refine Classical.byContradiction fun hc => ?_
  have := h.cur.xlt (show m + 1 < i by omega) (by omega)
  grind
 subst hmi
 have z1 := lin1 (v := 0) (by grind) e1 (by grind)
 have a1 := lin (v := 0) (by grind) e2 (by grind)
 rw [z1, a1]
theorem yyg1 (h : LiftT n p) {m : Nat} (hm : m + 1 < n) {x t z v : Rt} {k : Int} (hx : near x = true) (ht : isRat t = true) (ht0 : 0 ≤ val t) (ht1 : val t < 1) (hxt : val x = val t + (k : Rat)) (hon : OnP p m t z) (hv : liftQ n p x = some v) : val v = val z + (k : Rat) := by
 have hr := (yof hx).1
 have hk := yps hx
 have hf : flr x = k := yjs1 hr (by grind) (by grind)
 obtain ⟨a, ha, hv⟩ := Option.bind_eq_some_iff.1 hv
 have v1 := yhr (ydd1 ha) (yxe (k := flr x) (by omega) (by omega)) hv
 rw [yho] at v1
 have hpt : part x = t := yxg1 (yxi hr).rat ht (by rw [yhc1 hr, hf, hxt]; grind)
 have hu := ydy (yxi hr)
 rw [hpt] at ha hu
 rw [v1, yct1 h hm hu hon ha, hf]
theorem ylj1 (h : LiftT n p) {y v w : Rt} (hy : near y = true) (hy' : near (y.1 + y.2, y.2) = true) (hv : liftQ n p y = some v) (hw : liftQ n p (y.1 + y.2, y.2) = some w) : w = (v.1 + v.2, v.2) := by
 have hr := (yof hy).1
 have hr' := (yof hy').1
 have hp := yvl hr
 have hk := yps hy
 have hk' := yps hy'
 have vy : val (y.1 + y.2, y.2) = val y + 1 := by
  have e := yog (r := y) hp
  have n0 := ne0 hp; show ((y.1 + y.2 : Int) : Rat) / (y.2 : Rat) = _
  rw [Rat.intCast_add, ← e]; grind
 have b := (yxi hr).bd
 have hf : flr (y.1 + y.2, y.2) = flr y + 1 := by
  have b' := (yxi hr').bd
  refine yia1 hp b'.1 b'.2 ?_ ?_ <;> (simp only [Int.add_mul]; omega)
 have hpt : part (y.1 + y.2, y.2) = part y := by
  refine yxg1 (yxi hr').rat (yxi hr).rat ?_
  rw [yhc1 hr', yhc1 hr, hf, vy, Rat.intCast_add]; grind
 obtain ⟨a, ha, hv⟩ := Option.bind_eq_some_iff.1 hv
 obtain ⟨b, hb, hw⟩ := Option.bind_eq_some_iff.1 hw
 rw [hpt, ha] at hb
 obtain rfl := Option.some.inj hb
 have v1 := yhr (ydd1 ha) (yxe (k := flr y) (by omega) (by omega)) hv
 have v2 := yhr (ydd1 ha) (yxe (k := flr (y.1 + y.2, y.2)) (by omega) (by omega)) hw
 rw [yho] at v1 v2
 have rv := yhl hv
 have rw' := yhl hw
 have pv := yvl rv
 have pw := yvl rw'
 refine ykj1 (isRat_iff.1 rw').2.2.2.2 ?_ pw pv ?_
 ·show Int.gcd (v.1 + v.2) v.2 = 1
  rw [show v.1 + v.2 = v.1 + 1 * v.2 by omega, Int.gcd_add_mul_right_left]; exact (isRat_iff.1 rv).2.2.2.2
 show w.1 * v.2 = (v.1 + v.2) * w.2
 have e1 := yog (r := v) pv
 have e2 := yog (r := w) pw
 have key : (w.1 : Rat) * (v.2 : Rat) = ((v.1 : Rat) + (v.2 : Rat)) * (w.2 : Rat) := by
  rw [← e1, ← e2, v1, v2, hf, Rat.intCast_add]; grind
 have k2 : ((w.1 * v.2 : Int) : Rat) = (((v.1 + v.2) * w.2 : Int) : Rat) := by
  rw [Rat.intCast_mul, Rat.intCast_mul, Rat.intCast_add]; exact key
 exact_mod_cast k2
end
end Go.PV

/-
 Plain laws: FnLifts: what stands before a value has it.
 Conditions: none.
-/
set_option linter.all false
namespace Go.PV
section
variable {n : Nat} {p : Nat → Pt}
theorem ygq1 (h : LiftT n p) {i : Nat} (hi : i + 1 < n) {z t : Rt} (hz : isRat z = true) (h1 : less (p i).2 z = true) (h2 : less (p (i + 1)).2 z = false) (hb : backQ (p i) (p (i + 1)) z = some t) : isRat t = true ∧ OnP p i t z ∧ val (p i).1 < val t := by
 obtain ⟨u, v, hs⟩ := h.cur.piece hi
 have ry := h.cur.yr (show i < n by omega)
 have ry' := h.cur.yr hi
 have l1 := (ywv (yvl ry) (yvl hz)).1 h1
 have l2 := (yin (yvl ry') (yvl hz)).1 h2
 have v4 := yhp ry' ry hs.up
 have v5 := yhp (h.cur.xr hi) (h.cur.xr (show i < n by omega)) hs.far
 have v6 := ygc1 hs.ru hs.rv hs.vp hs.div
 have hx := h.cur.xlt (show i < i + 1 by omega) hi
 have hu : 0 < u.1 := by
  have e := yog (r := u) (yvl hs.ru)
  have h3 : 0 < val u := by rw [v4]; grind
  have hp := yom (yvl hs.ru)
  have h4 : 0 < (u.1 : Rat) := by rw [← e]; exact Rat.mul_pos h3 hp
  exact_mod_cast h4
 have hsp : 0 < (slopeQ (p i) (p (i + 1))).1 := hs.sg.1.2 hu
 unfold backQ at hb
 obtain ⟨a, ha, hb⟩ := Option.bind_eq_some_iff.1 hb
 obtain ⟨b, hb1, hb⟩ := Option.bind_eq_some_iff.1 hb
 have w1 := yhp hz ry ha
 have w2 := ygc1 (yfo ha) hs.rs hsp hb1
 have w3 := yhr (h.cur.xr (show i < n by omega)) (yxx hb1) hb
 have hS : 0 < val (slopeQ (p i) (p (i + 1))) := by
  have e := yog (r := slopeQ (p i) (p (i + 1))) (yvl hs.rs)
  have hp := yom (yvl hs.rs)
  refine Classical.byContradiction fun hno => ?_
  have h5 := Rat.mul_le_mul_of_nonneg_right (show val (slopeQ (p i) (p (i + 1))) ≤ 0 by grind) (Rat.le_of_lt hp)
  rw [e, Rat.zero_mul] at h5; have h6 : (slopeQ (p i) (p (i + 1))).1 ≤ 0 := by exact_mod_cast h5
  omega
 rw [v4, v5] at v6
 rw [w1] at w2
 generalize val (slopeQ (p i) (p (i + 1))) = S at v6 w2 hS
 have hbp : 0 < val b := by
  refine Classical.byContradiction fun hno => ?_
  have := Rat.mul_le_mul_of_nonneg_right (show val b ≤ 0 by grind) (Rat.le_of_lt hS)
  grind
 have hbu : val b ≤ val (p (i + 1)).1 - val (p i).1 := by
  refine Classical.byContradiction fun hno => ?_
  have := Rat.mul_lt_mul_of_pos_right (show val (p (i + 1)).1 - val (p i).1 < val b by grind) hS
  grind
 refine ⟨yhl hb, ⟨by rw [w3]; grind, by rw [w3]; grind, ?_⟩, by rw [w3]; grind⟩
 rw [w3, ← w2, ← v6]
 grind
theorem yie1 (h : LiftT n p) {y x : Rt} (hy : near y = true) (hb : ygb (tab n p) y (p 0) (turnK (p 0).2 y) = some (x, true)) :
  ∃ z, subQ y (turnK (p 0).2 y, 1) = some z ∧ isRat z = true ∧ ((z = (p 0).2 ∧ ∃ j, FlatJ n p j ∧ addQ ((p j).1.1 - (p j).1.2, (p j).1.2) (turnK (p 0).2 y, 1) = some x) ∨
   ∃ J t, UpJ n p z J ∧ backQ (p (J - 1)) (p J) z = some t ∧ addQ t (turnK (p 0).2 y, 1) = some x) := by
 have hk := yfc1 hy h.near0
 have h1 := h.cur.lo
 have h2 := h.cur.hi
 have hr := (yof hy).1
 have hw : isRat (turnK (p 0).2 y, 1) = true := yxe (by omega) (by omega)
 unfold ygb at hb
 simp only [yjb, Option.bind_some, yjf hr hw] at hb
 cases hs : subQ y (turnK (p 0).2 y, 1) with
 | none =>
  rw [hs] at hb; have : (((0 : Int), (0 : Int)), false) = (x, true) := Option.some.inj hb
  cases this
 | some z =>
  rw [hs] at hb; obtain ⟨hz, z1, z2⟩ := yuk1 hy h.near0 hs; rw [← h.lstY] at z2; have f0 := h.cur.fst; refine ⟨z, rfl, hz, ?_⟩
  simp only [unO, Bool.not_true, Bool.false_eq_true, if_false] at hb; have unx : ∀ {o : Option Rt}, unO o = (x, true) → o = some x := fun {o} ho => by
   cases o with
   | none => cases ho
   | some r => simp only [unO, Prod.mk.injEq, and_true] at ho; rw [ho]
  cases hl : less (p 0).2 z
  ·have hzy : z = (p 0).2 := ytk1 hz (h.cur.y 0 (by omega)).1 z1 hl
   obtain ⟨j, hj⟩ := yfd1 h; obtain ⟨l1, l2⟩ := ygd1 h hj; have hjl := hj.lt; have e1 : w64 ((n : Int) - 1) = ((n - 1 : Nat) : Int) := by rw [yka (by omega) (by omega)]; omega
   obtain ⟨s1, s2, s3⟩ := ywg1 (h.cur.x j hjl)
   have hadd := yng s1 hw; rw [ydx h.cur hz (fun i hi => by rw [hzy]; exact h.le (Nat.zero_le i) hi)] at hb
   simp only [Option.bind_some, Sum.elim_inr, yoc, beq_self_eq_true, Bool.and_self, if_true, yzd, e1, l1, yze, yrb hjl, yob, yjb, s3] at hb
   have hat : (if decide ((j : Int) < ((n - 1 : Nat) : Int)) = true then (yvc ((p j).1.1 - (p j).1.2, (p j).1.2) (turnK (p 0).2 y, 1)).bind fun v15 => some v15 else (yvc ((p 0).1.1, (p 0).1.2) (turnK (p 0).2 y, 1)).bind fun v15 => some v15) = some (unO (addQ ((p j).1.1 - (p j).1.2, (p j).1.2) (turnK (p 0).2 y, 1))) := by
    by_cases hc : j < n - 1
    ·simp only [show ((j : Int) < ((n - 1 : Nat) : Int)) from by omega, decide_true, if_true, hadd, Option.bind_some]
    have : j = n - 1 := by omega
    subst this; simp only [show ¬ (((n - 1 : Nat) : Int) < ((n - 1 : Nat) : Int)) from by omega, decide_false, Bool.false_eq_true, if_false]; rw [h.cur.lst] at hadd ⊢
    rw [f0]; have hadd' : yvc (0, 1) (turnK (p 0).2 y, 1) = some (unO (addQ (1 - 1, 1) (turnK (p 0).2 y, 1))) := hadd
    rw [hadd']; rfl
   rw [hat] at hb; exact .inl ⟨hzy, j, hj, unx (Option.some.inj hb)⟩
  obtain ⟨J, hJ⟩ := yvk1 hl (ypg1 z2) h1
  have hp := hJ.pos; have hlt := hJ.lt; rw [ycx h.cur hz h.le hJ] at hb; rw [show J - 1 + 1 = J by omega] at hb; obtain ⟨v, b1, b2⟩ := yvv h.cur (i := J - 1) (by omega) hz false
  rw [show J - 1 + 1 = J by omega] at b1 b2
  cases hbq : backQ (p (J - 1)) (p J) z with
  | none =>
   rw [hbq] at hb; have : (((0 : Int), (0 : Int)), false) = (x, true) := Option.some.inj hb
   cases this
  | some t =>
   rw [hbq] at hb; have ht : t ≠ (0, 1) := yvg1 h.cur (i := J - 1) (by omega) hz (hJ.bef (J - 1) (by omega)) (.inr (by rw [show J - 1 + 1 = J by omega]; exact hJ.at')) (by rw [show J - 1 + 1 = J by omega]; exact hbq)
   have htr : isRat t = true := by
    have hbq2 := hbq; unfold backQ at hbq2; obtain ⟨a, _, hbq2⟩ := Option.bind_eq_some_iff.1 hbq2; obtain ⟨b, _, hbq2⟩ := Option.bind_eq_some_iff.1 hbq2; exact yhl hbq2
   have hnt : (t.1 == (p 0).1.1 && t.2 == (p 0).1.2) = false := by
    cases he : (t.1 == (p 0).1.1 && t.2 == (p 0).1.2)
    ·rfl
    exfalso
    simp only [Bool.and_eq_true, beq_iff_eq, f0] at he; exact ht (Prod.ext he.1 he.2)
   simp only [Option.bind_some, Sum.elim_inr, yoc, hnt, Bool.false_eq_true, if_false, yob, yjb] at hb; rw [show (t.1, t.2) = t from rfl, yng htr hw] at hb
   exact .inr ⟨J, t, hJ, hbq, unx (Option.some.inj hb)⟩
theorem ymj1 (h : LiftT n p) {y x v : Rt} (hy : near y = true) (hx : near x = true) (hb : ygb (tab n p) y (p 0) (turnK (p 0).2 y) = some (x, true)) (hv : liftQ n p x = some v) : v = y := by
 have hk := yfc1 hy h.near0
 have h1 := h.cur.lo
 have hr := (yof hy).1
 have hw : isRat (turnK (p 0).2 y, 1) = true := yxe (by omega) (by omega)
 obtain ⟨z, hs, hz, hc⟩ := yie1 h hy hb
 have vz := yhp hr hw hs
 rw [yho] at vz
 have f0 := h.cur.x0
 have f1 := h.cur.x1
 have y1 := h.y1
 refine yxg1 (yed1 hv) hr ?_
 generalize turnK (p 0).2 y = K at *
 have r01 : isRat (0, 1) = true := yxe (by omega) (by omega)
 have v01 : val (0, 1) = 0 := by rw [yho]; rfl
 -- a fraction that is a turn's end
 have ends : ∀ {k : Int}, val x = (k : Rat) → val v = val (p 0).2 + (k : Rat) := fun {k} hxk => by
  refine yyg1 h (m := 0) (t := (0, 1)) (by omega) hx r01 (by rw [v01]; exact Rat.le_refl) (by rw [v01]; grind) (by rw [v01, hxk]; grind) ?_ hv
  have := ywk1 h (m := 0) (by omega)
  rw [h.cur.fst] at this; exact this
 rcases hc with ⟨hzy, j, hj, hadd⟩ | ⟨J, t, hJ, hbq, hadd⟩
 ·have hjl := hj.lt
  obtain ⟨s1, s2, s3⟩ := ywg1 (h.cur.x j hjl)
  have va := yhr s1 hw hadd; rw [yho] at va; have vs : val ((p j).1.1 - (p j).1.2, (p j).1.2) = val (p j).1 - 1 := by
   have := yhp (h.cur.xr hjl) yyx s2
   rw [this]; have : val ((1 : Int), (1 : Int)) = 1 := by rw [yho]; rfl
   rw [this]
  rw [vs] at va; by_cases hc : j = n - 1
  ·subst hc
   rw [f1] at va; have := ends (k := K) (by rw [va]; grind)
   rw [this, ← hzy, vz]; grind
  have hj1 : j + 1 < n := by omega
  have hflat : ∀ d, j + d < n → val (p (j + d)).2 = val (p j).2 := by
   intro d; induction d with
   | zero => intro _; rfl
   | succ d ih =>
    intro hd; have := hj.same (j + (d + 1)) (by omega) hd
    rw [show j + (d + 1) - 1 = j + d by omega] at this; rw [← this]; exact ih (by omega)
  have hyj := hflat (n - 1 - j) (by omega)
  rw [show j + (n - 1 - j) = n - 1 by omega] at hyj; have xj0 : 0 ≤ val (p j).1 := by
   have := h.cur.xlt (show 0 < j by have := hj.pos; omega) hjl
   grind
  have xj1 : val (p j).1 < 1 := by
   have := h.cur.xlt (show j < n - 1 by omega) (by omega)
   grind
  have := yyg1 h (m := j) (t := (p j).1) (z := (p j).2) (k := K - 1) hj1 hx (h.cur.xr hjl) xj0 xj1 (by rw [va, Rat.intCast_sub]; grind) (ywk1 h hj1) hv
  rw [this, ← hyj, y1, ← hzy, vz, Rat.intCast_sub]; grind
 have hp := hJ.pos
 have hlt := hJ.lt
 obtain ⟨ht, hon, hgt⟩ := ygq1 h (i := J - 1) (by omega) hz (hJ.bef (J - 1) (by omega)) (by rw [show J - 1 + 1 = J by omega]; exact hJ.at') (by rw [show J - 1 + 1 = J by omega]; exact hbq)
 have va := yhr ht hw hadd
 rw [yho] at va
 have xlo : 0 ≤ val (p (J - 1)).1 := by
  by_cases h0 : J - 1 = 0
  ·rw [h0, f0]; exact Rat.le_refl
  have := h.cur.xlt (show 0 < J - 1 by omega) (by omega); grind
 have thi := hon.hi
 rw [show J - 1 + 1 = J by omega] at thi
 have xhi : val (p J).1 ≤ 1 := by
  by_cases h0 : J = n - 1
  ·rw [h0, f1]; exact Rat.le_refl
  have := h.cur.xlt (show J < n - 1 by omega) (by omega); grind
 by_cases ht1 : val t < 1
 ·have := yyg1 h (m := J - 1) (t := t) (z := z) (k := K) (by omega) hx ht (by grind) ht1 (by rw [va]) hon hv
  rw [this, vz]; grind
 have t1 : val t = 1 := by grind
 have hJn : J = n - 1 := by
  refine Classical.byContradiction fun hc => ?_
  have := h.cur.xlt (show J < n - 1 by omega) (by omega)
  grind
 have hzv : val z = val (p (n - 1)).2 := by
  have he := hon.eq; rw [show J - 1 + 1 = J by omega] at he; rw [← hJn]; have hd := h.cur.xlt (show J - 1 < J by omega) hlt
  rw [hJn] at he hd ⊢
  rw [f1, t1] at he; rw [f1] at hd; have : (val z - val (p (n - 1)).2) * (1 - val (p (n - 1 - 1)).1) = 0 := by grind
  have := Rat.mul_eq_zero.1 this
  grind
 have := ends (k := K + 1) (by rw [va, t1, Rat.intCast_add]; grind)
 rw [this, Rat.intCast_add]
 grind
end
end Go.PV

/-
 Plain laws: characteristic polynomials.
 Conditions: none.
-/
set_option linter.all false
namespace Go.PV
def mulW (n : Nat) (A M : Nat → Nat → Int) (i j : Nat) : Int := foldN n (fun s l => w64 (s + w64 (A i l * M l j))) 0
def trW (n : Nat) (P : Nat → Nat → Int) : Int := foldN n (fun s i => w64 (s + P i i)) 0
def addD (M : Nat → Nat → Int) (c : Int) (i j : Nat) : Int := if i = j then w64 (M i j + c) else M i j
section
variable {n : Nat} {A : Nat → Nat → Int}
def chN (n : Nat) (A : Nat → Nat → Int) : Nat → (Nat → Int) × (Nat → Nat → Int)
 | 0 => (fun i => if i = n then 1 else 0, fun _ _ => 0)
 | k + 1 => (fun i => if i = n - (k + 1) then w64 (Int.tdiv (w64 (0 - trW n (mulW n A (addD (chN n A k).2 ((chN n A k).1 (n - k)))))) ((k + 1 : Nat) : Int)) else (chN n A k).1 i, mulW n A (addD (chN n A k).2 ((chN n A k).1 (n - k))))
end
def isPoly (c : List Int) : Bool := decide ((c.length : Int) ≤ 9) && (c.all (inB (-1000000) 1000000))
end Go.PV

/-
 Plain laws: lists turned round, ones.
 Conditions: none.
-/
set_option linter.all false
namespace Go.PV
section
variable {α : Type} [Inhabited α]
def revSt (xs : List α) (k : Nat) : List α := tab xs.length fun p => if p < k ∨ xs.length ≤ p + k then xs.getD (xs.length - 1 - p) default else xs.getD p default
end
def trimZ (c : List Int) : List Int := (c.reverse.dropWhile (· == 0)).reverse
end Go.PV

/-
 Plain laws: vectors of walks, bounds of growth.
 Conditions: none.
-/
set_option linter.all false
namespace Go.PV
def vk (G : Nat → Nat → Int) (n : Nat) : Nat → Nat → Int
 | 0 => fun _ => 1
 | k + 1 => fun j => dotN (G j) (vk G n k) n + vk G n k j
def mxg (G : Nat → Nat → Int) (n : Nat) : Nat → Nat
 | 0 => 0
 | k + 1 => if mxg G n k = k ∧ isVec (tab n (vk G n (k + 1))) = true then k + 1 else mxg G n k
section
variable {n : Nat} {G : Nat → Nat → Int}
def bestT (G : Nat → Nat → Int) (n : Nat) : (Int × Int) × (Int × Int) × Int × Bool := (mnN (ratN G (vk G n (mxg G n 20)) n) n, mxN (ratN G (vk G n (mxg G n 20)) n) n, ((mxg G n 20 : Nat) : Int), true)
end
end Go.PV

/-
 Plain laws: what draws from bytes always comes to an end.
 Conditions: none.
-/
set_option linter.all false
namespace Go.PV
def Tot {α : Type} (o : Option α) (P : α → Prop) : Prop := ∃ r, o = some r ∧ P r
section
variable {α β : Type} {P : α → Prop} {Q : β → Prop}
theorem Tot.bind {o : Option α} {f : α → Option β} (h : Tot o P) (k : ∀ r, P r → Tot (f r) Q) : Tot (o.bind f) Q := by
 obtain ⟨r, rfl, hr⟩ := h
 exact k r hr
theorem Tot.ret {r : α} (h : P r) : Tot (some r) P := ⟨r, rfl, h⟩
theorem Tot.ite {c : Bool} {x y : Option α} (h1 : c = true → Tot x P) (h2 : c = false → Tot y P) : Tot (if c = true then x else y) P := by
 cases c
 ·exact h2 rfl
 exact h1 rfl
theorem Tot.guard {p : Prop} [Decidable p] {f : Unit → Option α} (h : p) (k : Tot (f ()) P) : Tot ((guardO p).bind f) P := by
 rw [yda h]; exact k
def Lp {X Y : Type} (I : X → Prop) (R : Y → Prop) : X ⊕ Y → Prop
 | .inl x => I x
 | .inr y => R y
theorem Tot.inl {X Y : Type} {I : X → Prop} {R : Y → Prop} {x : X} (h : I x) : Tot (some (Sum.inl x)) (Lp I R) := ⟨_, rfl, h⟩
theorem Tot.inr {X Y : Type} {I : X → Prop} {R : Y → Prop} {y : Y} (h : R y) : Tot (some (Sum.inr y)) (Lp I R) := ⟨_, rfl, h⟩
theorem Tot.loop {X Y : Type} {body : X → Option (X ⊕ Y)} {R : Y → Prop} (Inv : X → Prop) (μ : X → Nat)
  (h : ∀ x, Inv x → Tot (body x) (Lp (fun x' => Inv x' ∧ μ x' < μ x) R)) (x0 : X) (h0 : Inv x0) : Tot (loopO body x0) R := by
 obtain ⟨y, h1, h2⟩ := ygr (body := body) Inv μ R (fun x hx => by
  obtain ⟨r, e, hr⟩ := h x hx; cases r with
  | inl x' => exact .inl ⟨x', e, hr.1, hr.2⟩
  | inr y => exact .inr ⟨y, e, hr⟩) x0 h0
 exact ⟨y, h1, h2⟩
end
theorem Tot.idx {α β : Type} {xs : List α} {i : Int} {f : α → Option β} {Q : β → Prop} (h0 : 0 ≤ i) (h1 : i < xs.length) (k : ∀ x, x ∈ xs → Tot (f x) Q) : Tot ((idxO xs i).bind f) Q := by
 obtain ⟨m, rfl⟩ := Int.eq_ofNat_of_zero_le h0
 have hm : m < xs.length := by omega
 rw [yhs hm, Option.bind_some]
 exact k _ (List.getElem_mem hm)
abbrev Cur := List Int × Int × Int
def Bytes (l : List Int) : Prop := l.length ≤ 9223372036854775807 ∧ ∀ b ∈ l, 0 ≤ b ∧ b ≤ 255
def Ck (B : Nat) (c : Cur) : Prop := Bytes c.1 ∧ 0 ≤ c.2.1 ∧ c.2.1 ≤ B
theorem Ck.mono {B B' : Nat} {c : Cur} (h : Ck B c) (hb : B ≤ B') : Ck B' c := ⟨h.1, h.2.1, by have := h.2.2; omega⟩
theorem ck0 {l : List Int} (h : Bytes l) : Ck 0 (l, 0, 0) := ⟨h, by simp, by simp⟩
theorem yhq1 (n : Int) : IntKind.u64.wrap n = n % 18446744073709551616 := by simp [IntKind.wrap, IntKind.bits, IntKind.signed]
theorem yzg1 (n : Int) : IntKind.wrap .i64 n = w64 n := rfl
theorem yvm1 (x : Int) : 0 ≤ iand .u64 x 255 ∧ iand .u64 x 255 ≤ 255 := by
 unfold iand
 have h : ((BitVec.ofInt (IntKind.bits .u64) x) &&& (BitVec.ofInt (IntKind.bits .u64) 255)).toNat ≤ 255 := by
  rw [BitVec.toNat_and]; have : (BitVec.ofInt (IntKind.bits .u64) 255).toNat = 255 := by decide
  rw [this]; exact Nat.and_le_right
 rw [yhq1, Int.emod_eq_of_lt (by omega) (by omega)]
 omega
theorem yxk1 {B : Nat} {c : Cur} (h : Ck B c) (hB : B ≤ 1152921504606846976) : Tot (yyf c) fun r => (0 ≤ r.1 ∧ r.1 ≤ 255) ∧ Ck (B + 1) r.2 := by
 obtain ⟨⟨hl, hb⟩, h0, h1⟩ := h
 have hw : w64 (c.2.1 + 1) = c.2.1 + 1 := yka (by omega) (by omega)
 have key : ∀ x : Int, 0 ≤ x → x ≤ 255 → Tot (yod c x) fun r => (0 ≤ r.1 ∧ r.1 ≤ 255) ∧ Ck (B + 1) r.2 := by
  intro x hx0 hx1; unfold yod; rw [hw]; refine Tot.ite (fun _ => Tot.ret ⟨⟨hx0, hx1⟩, ⟨hl, hb⟩, by show 0 ≤ c.2.1 + 1; omega, by show c.2.1 + 1 ≤ _; omega⟩) (fun _ => Tot.ret ⟨?_, ⟨hl, hb⟩, by show 0 ≤ c.2.1 + 1; omega, by show c.2.1 + 1 ≤ _; omega⟩)
  rw [yzg1]; obtain ⟨a, b⟩ := yvm1 (ishr .u64 (IntKind.wrap .u64 ((IntKind.wrap .u64 ((IntKind.wrap .u64 (c.2.2 * 6364136223846793005)) + (IntKind.wrap .u64 x))) + 1442695040888963407)) 40)
  show 0 ≤ w64 _ ∧ w64 _ ≤ 255
  rw [yka (by omega) (by omega)]; exact ⟨a, b⟩
 unfold yyf
 refine Tot.ite (fun hc => ?_) (fun _ => key 0 (by omega) (by omega))
 have hlt : c.2.1 < (c.1.length : Int) := of_decide_eq_true hc
 refine Tot.idx h0 hlt fun x hx => ?_
 have := hb x hx
 rw [yzg1, yka (by omega) (by omega)]
 exact key x this.1 this.2
theorem yah1 {x n : Int} (hx : 0 ≤ x) (hn : 1 ≤ n) : 0 ≤ Int.tmod x n ∧ Int.tmod x n < n := by
 obtain ⟨a, rfl⟩ := Int.eq_ofNat_of_zero_le hx
 obtain ⟨b, rfl⟩ := Int.eq_ofNat_of_zero_le (show 0 ≤ n by omega)
 have : Int.tmod (a : Int) (b : Int) = ((a % b : Nat) : Int) := rfl
 rw [this]
 have := Nat.mod_lt a (show b > 0 by omega)
 omega
theorem ynk {B : Nat} {c : Cur} (h : Ck B c) (hB : B ≤ 1000000000000000000) (n : Int) : Tot (yoa c n) fun r => (0 ≤ r.1 ∧ (1 ≤ n → r.1 < n)) ∧ Ck (B + 2) r.2 := by
 unfold yoa
 refine Tot.ite (fun hc => Tot.ret ⟨⟨by show (0 : Int) ≤ 0; omega, fun h => by show (0 : Int) < n; omega⟩, h.mono (by omega)⟩) (fun hc => ?_)
 have hn : ¬ n ≤ 1 := of_decide_eq_false hc
 refine (yxk1 h (by omega)).bind fun v2 ⟨⟨h1, h2⟩, h3⟩ => ?_
 refine Tot.ite (fun _ => ?_) (fun _ => ?_)
 ·refine (yxk1 h3 (by omega)).bind fun v6 ⟨⟨h4, h5⟩, h6⟩ => ?_
  unfold ypd; refine Tot.guard (by omega) (Tot.ret ?_)
  have e : w64 ((w64 (v2.1 * 256)) + v6.1) = v2.1 * 256 + v6.1 := by rw [yka (n := v2.1 * 256) (by omega) (by omega), yka (by omega) (by omega)]
  have := yah1 (x := v2.1 * 256 + v6.1) (n := n) (by omega) (by omega)
  simp only [e]; exact ⟨⟨this.1, fun _ => this.2⟩, h6⟩
 unfold ypd
 refine Tot.guard (by omega) (Tot.ret ?_)
 have := yah1 (x := v2.1) (n := n) (by omega) (by omega)
 exact ⟨⟨this.1, fun _ => this.2⟩, h3.mono (by omega)⟩
theorem ybh1 {B : Nat} {c : Cur} (h : Ck B c) (hB : B ≤ 1000000000000000000) (n : Int) : Tot (yie c n) fun r => Ck (B + 2) r.2 := by
 unfold yie
 exact (ynk h hB n).bind fun v h => Tot.ret h.2
theorem yph {B : Nat} {c : Cur} (h : Ck B c) (hB : B ≤ 1000000000000000000) (l : List Int) (hl : l ≠ []) : Tot (ypa c l) fun r => r.1 ∈ l ∧ Ck (B + 2) r.2 := by
 unfold ypa
 refine (ynk h hB _).bind fun v ⟨⟨h1, h2⟩, h3⟩ => ?_
 have : 0 < l.length := List.length_pos_iff.2 hl
 refine Tot.idx h1 (h2 (by omega)) fun x hx => Tot.ret ⟨hx, h3⟩
end Go.PV
namespace Go.PV
def cur4 {α : Type} (x : List Int × Int × Int × α) : Cur := (x.1, x.2.1, x.2.2.1)
def En (l : List Int) : Prop := ∀ x ∈ l, 0 ≤ x ∧ x ≤ 9
def Sq (n : Int) (g : List (List Int)) : Prop := (g.length : Int) = n ∧ ∀ row ∈ g, (row.length : Int) = n ∧ En row
def Sm (g : List (List Int)) : Prop := g.length ≤ 9 ∧ ∀ row ∈ g, row.length ≤ 9
end Go.PV

/-
 Plain laws: what draws fractions and vectors always comes to an end.
 Conditions: none.
-/
set_option linter.all false
namespace Go.PV
theorem yks1 {B : Nat} (hB : B ≤ 100000000) {c : Cur} (hc : Ck B c) : Tot (yej c) fun r => isRat r.1 = true ∧ Ck (B + 12) r.2 := by
 unfold yej
 refine (ynk hc (by omega) _).bind fun v1 ⟨⟨a1, a2⟩, h1⟩ => ?_
 refine (ynk h1 (by omega) _).bind fun v2 ⟨⟨b1, b2⟩, h2⟩ => ?_
 refine (yph h2 (by omega) _ (by simp)).bind fun v3 ⟨m3, h3⟩ => ?_
 refine (ynk h3 (by omega) _).bind fun v4 ⟨⟨d1, d2⟩, h4⟩ => ?_
 refine (ynk h4 (by omega) _).bind fun v5 ⟨⟨e1, e2⟩, h5⟩ => ?_
 refine (yph h5 (by omega) _ (by simp)).bind fun v6 ⟨m6, h6⟩ => ?_
 have a3 := a2 (by omega); have b3 := b2 (by omega); have d3 := d2 (by omega); have e3 := e2 (by omega)
 rw [yka (by omega) (by omega), yka (by omega) (by omega)] at m3 m6
 simp only [List.mem_cons, List.not_mem_nil, or_false] at m3 m6
 rw [ymd v3.1 v6.1 (by omega) (by omega) (by omega) (by omega) (by omega), Option.bind_some]
 unfold yjb
 cases hq : lowQ v3.1 v6.1 with
 | none => exact Tot.ret ⟨yyx, h6⟩
 | some q => exact Tot.ret ⟨ypt hq, h6⟩
theorem yly {B : Nat} (hB : B ≤ 100000000) {c : Cur} (hc : Ck B c) : Tot (yfd c) fun r => Ck (B + 18) r.2 := by
 unfold yfd
 refine (yks1 hB hc).bind fun v1 ⟨_, h1⟩ => ?_
 refine (ynk h1 (by omega) _).bind fun v2 ⟨_, h2⟩ => ?_
 refine Tot.ite (fun _ => ?_) (fun _ => Tot.ite (fun _ => ?_) (fun _ => Tot.ite (fun _ => ?_) (fun _ => Tot.ret (h2.mono (by omega)))))
 ·exact (yph h2 (by omega) _ (by simp)).bind fun v ⟨_, h⟩ => Tot.ret (h.mono (by omega))
 ·exact (yph h2 (by omega) _ (by simp)).bind fun v ⟨_, h⟩ => Tot.ret (h.mono (by omega))
 exact (yph h2 (by omega) _ (by simp)).bind fun v ⟨_, h⟩ => (yph h (by omega) _ (by simp)).bind fun w ⟨_, h'⟩ => Tot.ret (h'.mono (by omega))
end Go.PV

/-
 Plain laws: what draws lifts always comes to an end.
 Conditions: none.
-/
set_option linter.all false
namespace Go.PV
def Gr (r : Rt) : Prop := isRat r = true ∧ 0 ≤ r.1 ∧ r.1 ≤ 100 ∧ 1 ≤ r.2 ∧ r.2 ≤ 100
theorem yhd1 {v a : Int} (h0 : 0 ≤ v) (h1 : v ≤ a) (a1 : 1 ≤ a) (a2 : a ≤ 100) : Tot (yyc v a) fun r => Gr r.1 := by
 obtain ⟨r, h⟩ := yil (n := v) (d := a) h0 (by omega) a1 (by omega)
 rw [ymd v a (by omega) (by omega) (by omega) (by omega) (by omega), h.eq]
 have := h.num
 have := h.den
 have h2 : 0 ≤ r.1 := by
  by_cases hv : v = 0
  ·rw [h.zer hv]; omega
  have := h.pos (by omega); omega
 exact Tot.ret ⟨h.rat, h2, by show r.1 ≤ 100; omega, by show 1 ≤ r.2; omega, by show r.2 ≤ 100; omega⟩
theorem yip {B : Nat} (hB : B ≤ 100000000) {c : Cur} (hc : Ck B c) {a : Int} (a1 : 1 ≤ a) (a2 : a ≤ 100) : Tot (yvb c a) fun r => Gr r.1 ∧ Ck (B + 2) r.2 := by
 unfold yvb
 rw [yka (by omega) (by omega)]
 refine (ynk hc (by omega) _).bind fun v1 ⟨⟨b1, b2⟩, h1⟩ => ?_
 have := b2 (by omega)
 exact (yhd1 b1 (by omega) a1 a2).bind fun v2 h2 => Tot.ret ⟨h2, h1⟩
theorem ynj1 (a b : Rt) : ∃ r, yuc a b = some r := by
 unfold yuc yln
 by_cases h1 : w64 (w64 (a.1 * b.2) - w64 (b.1 * a.2)) > 0
 ·simp [h1]
 by_cases h2 : w64 (w64 (a.1 * b.2) - w64 (b.1 * a.2)) < 0 <;> simp [h1, h2]
theorem ywm1 (xs : List Rt) (x : Rt) (hl : xs.length ≤ 1048576) : Tot (yop xs x) fun r => xs.length ≤ r.length ∧ r.length ≤ xs.length + 1 := by
 unfold yop
 refine Tot.bind (P := fun y : Int => 0 ≤ y ∧ y ≤ xs.length) ?_ fun y ⟨y0, y1⟩ => ?_
 ·refine Tot.loop (fun x => 0 ≤ x ∧ x ≤ (xs.length : Int)) (fun x => ((xs.length : Int) - x).toNat) (fun i ⟨i0, i1⟩ => ?_) _ ⟨by decide, by omega⟩
  unfold ynp; refine Tot.bind (P := fun b => b = true → i < (xs.length : Int)) ?_ fun b hb => ?_
  ·refine Tot.ite (fun hi => ?_) (fun _ => Tot.ret fun h => by cases h)
   have hi' : i < (xs.length : Int) := of_decide_eq_true hi
   refine Tot.idx i0 hi' fun v _ => ?_
   obtain ⟨r, hr⟩ := ynj1 v x; rw [hr, Option.bind_some]; exact Tot.ret fun _ => hi'
  refine Tot.ite (fun h => ?_) (fun _ => Tot.inr ⟨i0, i1⟩)
  have := hb h
  have hw : w64 (i + 1) = i + 1 := yka (by omega) (by omega)
  rw [hw]; exact Tot.inl ⟨⟨by omega, by omega⟩, by omega⟩
 unfold ydm
 refine Tot.bind (P := fun _ => True) ?_ fun b _ => ?_
 ·exact Tot.ite (fun hi => Tot.idx y0 (of_decide_eq_true hi) fun v _ => Tot.ret trivial) (fun _ => Tot.ret trivial)
 refine Tot.ite (fun _ => Tot.ret ⟨Nat.le_refl _, by omega⟩) (fun _ => ?_)
 refine Tot.guard ⟨y0, y1⟩ (Tot.guard (by simp; omega) (Tot.guard (by simp; omega) (Tot.guard (by simp; omega) (Tot.ret ⟨by simp; omega, by simp; omega⟩))))
def Gm (r : Rt) : Prop := -1000 ≤ r.1 ∧ r.1 ≤ 1000 ∧ 1 ≤ r.2 ∧ r.2 ≤ 100
theorem Gr.gm {r : Rt} (h : Gr r) : Gm r := ⟨by have := h.2.1; omega, by have := h.2.2.1; omega, h.2.2.2.1, h.2.2.2.2⟩
theorem yoj1 {r : Rt} (h : Gr r) {k : Int} (k0 : -9 ≤ k) (k1 : k ≤ 9) : Tot (yfb r k) fun y => Gm y := by
 obtain ⟨_, h1, h2, h3, h4⟩ := h
 have m1 : k * r.2 ≤ 9 * r.2 := Int.mul_le_mul_of_nonneg_right k1 (by omega)
 have m2 : -9 * r.2 ≤ k * r.2 := Int.mul_le_mul_of_nonneg_right k0 (by omega)
 unfold yfb
 rw [yka (n := k * r.2) (by omega) (by omega), yka (by omega) (by omega)]
 exact Tot.ret ⟨by show -1000 ≤ r.1 + k * r.2; omega, by show r.1 + k * r.2 ≤ 1000; omega, h3, h4⟩
theorem yqs (r : Rt) (k : Int) : Tot (yfb r k) fun _ => True := ⟨_, rfl, trivial⟩
theorem ypj1 {a b : Rt} (ha : Gm a) (hb : Gr b) : Tot (yvc a b) fun _ => True := by
 obtain ⟨a1, a2, a3, a4⟩ := ha
 obtain ⟨_, b1, b2, b3, b4⟩ := hb
 have m1 := yqu (a := a.1) (b := b.2) (A := 1000) (B := 100) a1 a2 (by omega) b4 (by omega) (by omega)
 have m2 := yqu (a := b.1) (b := a.2) (A := 100) (B := 100) (by omega) b2 (by omega) a4 (by omega) (by omega)
 have m3 := yqu (a := a.2) (b := b.2) (A := 100) (B := 100) (by omega) a4 (by omega) b4 (by omega) (by omega)
 have m4 : 0 < a.2 * b.2 := Int.mul_pos (by omega) (by omega)
 unfold yvc
 rw [yka (n := a.1 * b.2) (by omega) (by omega), yka (n := b.1 * a.2) (by omega) (by omega), yka (n := a.2 * b.2) (by omega) (by omega), yka (by omega) (by omega), ymd _ _ (by omega) (by omega) (by omega) (by omega) (by omega)]
 exact Tot.ret trivial
theorem yex {B : Nat} (hB : B ≤ 1000000) {c : Cur} (hc : Ck B c) {a : Int} (a1 : 1 ≤ a) (a2 : a ≤ 100) : Tot (yle c a) fun r => (2 ≤ r.1.length ∧ r.1.length ≤ 12) ∧ Ck (B + 300) r.2 := by
 have k4 : ∀ (x5 : List Int × Int × Int × List Rt) (x7 : List Int × Int × Int × Int × Int) (x8 : List Int × Int × Int × List Int), 2 ≤ x5.2.2.2.length → x5.2.2.2.length ≤ 12 → Gm x7.2.2.2 → x5.2.2.2.length ≤ x8.2.2.2.length + 1 → (∀ u ∈ x8.2.2.2, 0 ≤ u ∧ u ≤ a) → Ck (B + 300) (cur4 x8) →
   Tot (ywc a x5 x7 x8) fun r => (2 ≤ r.1.length ∧ r.1.length ≤ 12) ∧ Ck (B + 300) r.2 := by
  intro x5 x7 x8 l2 l12 hg hl hu hc; unfold ywc yje
  refine Tot.bind (P := fun y : List Pt => y.length = x5.2.2.2.length) ?_ fun y hy => Tot.ret ⟨⟨by show 2 ≤ y.length; omega, by show y.length ≤ 12; omega⟩, hc⟩
  refine Tot.loop (fun x => (x.1.length : Int) = x.2 ∧ x.2 ≤ (x5.2.2.2.length : Int)) (fun x => ((x5.2.2.2.length : Int) - x.2).toNat) (fun x ⟨xl, xh⟩ => ?_) _ ⟨by decide, by show (0 : Int) ≤ _; omega⟩
  obtain ⟨out, i⟩ := x; simp only at xl xh
  have k6 : ∀ v13 x14 : Rt, i < (x5.2.2.2.length : Int) → Tot (ylb (out, i) v13 x14) (Lp (fun x' : List Pt × Int => ((x'.1.length : Int) = x'.2 ∧ x'.2 ≤ (x5.2.2.2.length : Int)) ∧ ((x5.2.2.2.length : Int) - x'.2).toNat < ((x5.2.2.2.length : Int) - i).toNat) (fun y : List Pt => y.length = x5.2.2.2.length)) := by
   intro v13 x14 hi; unfold ylb; have hw : w64 (i + 1) = i + 1 := yka (by omega) (by omega)
   simp only [hw]; exact Tot.guard (by simp; omega) (Tot.inl ⟨⟨by simp; omega, by show i + 1 ≤ _; omega⟩, by show (_ - (i + 1)).toNat < _; omega⟩)
  unfold ytg; refine Tot.ite (fun hi => ?_) (fun hi => Tot.inr ?_)
  ·have hi' : i < (x5.2.2.2.length : Int) := of_decide_eq_true hi
   refine Tot.idx (by omega) hi' fun v13 _ => ?_
   have hw : w64 (i + 1) = i + 1 := yka (by omega) (by omega)
   simp only [hw]; refine Tot.ite (fun _ => (yqs _ _).bind fun v17 _ => k6 _ _ hi') (fun hne => Tot.ite (fun hpos => ?_) (fun _ => k6 _ _ hi'))
   have hne' : ¬ i + 1 = (x5.2.2.2.length : Int) := by simpa using hne
   refine Tot.idx (by omega) (by omega) fun v19 hv19 => ?_
   have := hu v19 hv19
   refine (yhd1 this.1 this.2 a1 a2).bind fun v20 h20 => ?_
   exact (ypj1 hg h20).bind fun v21 _ => k6 _ _ hi'
  have hi' : ¬ i < (x5.2.2.2.length : Int) := of_decide_eq_false hi
  show out.length = _
  omega
 have k3 : ∀ (B' : Nat) (x5 : List Int × Int × Int × List Rt) (x7 : List Int × Int × Int × Int × Int), B' + 30 ≤ B + 300 → 2 ≤ x5.2.2.2.length → x5.2.2.2.length ≤ 12 → Gm x7.2.2.2 → Ck B' (x7.1, x7.2.1, x7.2.2.1) →
   Tot (ywb a x5 x7) fun r => (2 ≤ r.1.length ∧ r.1.length ≤ 12) ∧ Ck (B + 300) r.2 := by
  intro B' x5 x7 hB' l2 l12 hg hc
  unfold ywb; refine Tot.bind (P := fun y : List Int × Int × Int × List Int => x5.2.2.2.length ≤ y.2.2.2.length + 1 ∧ (∀ u ∈ y.2.2.2, 0 ≤ u ∧ u ≤ a) ∧ Ck (B' + 30) (cur4 y)) ?_ fun y ⟨h1, h2, h3⟩ => k4 x5 x7 y l2 l12 hg h1 h2 (h3.mono hB')
  refine Tot.loop (fun x => (1 ≤ x.2.2.2.length ∧ x.2.2.2.length ≤ 11) ∧ (∀ u ∈ x.2.2.2, 0 ≤ u ∧ u ≤ a) ∧ Ck (B' + 2 * x.2.2.2.length) (cur4 x)) (fun x => 12 - x.2.2.2.length) (fun x ⟨⟨xl, xh⟩, xu, xc⟩ => ?_) _ ⟨⟨by simp, by simp⟩, fun u hu => by simp at hu; omega, Ck.mono (c := (x7.1, x7.2.1, x7.2.2.1)) hc (by omega)⟩
  obtain ⟨c1, c2, c3, l⟩ := x; simp only [cur4] at xl xh xu xc ⊢; unfold yug; rw [yka (n := (x5.2.2.2.length : Int) - 1) (by omega) (by omega)]; refine Tot.ite (fun hk => ?_) (fun hk => Tot.inr ⟨?_, xu, xc.mono (by omega)⟩)
  ·have hk' : (l.length : Int) < (x5.2.2.2.length : Int) - 1 := of_decide_eq_true hk
   have ew : w64 ((l.length : Int) - 1) = (l.length : Int) - 1 := yka (by omega) (by omega)
   simp only [ew]; refine Tot.idx (by omega) (by omega) fun v25 hv25 => ?_
   rw [yka (n := a + 1) (by omega) (by omega)]; refine (ynk xc (by omega) _).bind fun v26 ⟨⟨p1, p2⟩, h26⟩ => ?_
   have p3 := p2 (by omega)
   have q := xu v25 hv25; refine Tot.bind (P := fun z : Int => 0 ≤ z ∧ z ≤ a) ?_ fun z hz => ?_
   ·unfold ywk
    exact Tot.ite (fun _ => Tot.ret q) (fun _ => Tot.ret ⟨p1, by omega⟩)
   refine Tot.guard (by simp; omega) (Tot.inl ⟨⟨⟨by simp, by simp; omega⟩, fun u hu => ?_, Ck.mono (c := v26.2) h26 (by simp; omega)⟩, by simp; omega⟩)
   rcases List.mem_append.1 hu with h' | h'
   ·exact xu u h'
   rw [List.mem_singleton.1 h']; exact hz
  have hk' : ¬ (l.length : Int) < (x5.2.2.2.length : Int) - 1 := of_decide_eq_false hk
  show x5.2.2.2.length ≤ l.length + 1
  omega
 have k1 : ∀ (B' : Nat) (x2 : List Int × Int × Int × Int), B' + 250 ≤ B + 300 → x2.2.2.2 ≤ 10 → 0 ≤ x2.2.2.2 → Ck B' (cur4 x2) → Tot (yxb a x2) fun r => (2 ≤ r.1.length ∧ r.1.length ≤ 12) ∧ Ck (B + 300) r.2 := by
  intro B' x2 hB' h10 h0 hc
  unfold yxb yjb
  simp only [Option.bind_some]; refine Tot.bind (P := fun y : List Int × Int × Int × List Rt => (2 ≤ y.2.2.2.length ∧ y.2.2.2.length ≤ 12) ∧ Ck (B' + 120) (cur4 y)) ?_ fun y ⟨⟨y2, y12⟩, yc⟩ => ?_
  ·refine Tot.loop (fun x => (2 ≤ x.2.2.2.1.length ∧ x.2.2.2.1.length ≤ 12) ∧ (0 ≤ x.2.2.2.2 ∧ x.2.2.2.2 ≤ 60) ∧ Ck (B' + 2 * x.2.2.2.2.toNat) (cur4 x)) (fun x => (60 - x.2.2.2.2).toNat) (fun x ⟨⟨xl, xh⟩, ⟨t0, t1⟩, xc⟩ => ?_) _ ⟨⟨by simp, by simp⟩, ⟨by simp, by simp⟩, by simpa [cur4] using hc⟩
   obtain ⟨c1, c2, c3, l, tr⟩ := x; simp only [cur4] at xl xh t0 t1 xc ⊢; unfold yvg; rw [yka (n := x2.2.2.2 + 2) (by omega) (by omega)]; refine Tot.ite (fun hk => ?_) (fun hk => Tot.inr ⟨⟨xl, xh⟩, xc.mono (by omega)⟩)
   simp only [Bool.and_eq_true, decide_eq_true_eq] at hk; refine (yip (by omega) xc a1 a2).bind fun v36 ⟨_, h36⟩ => ?_
   refine (ywm1 l v36.1 (by omega)).bind fun v37 ⟨m1, m2⟩ => Tot.inl ?_
   have hw : w64 (tr + 1) = tr + 1 := yka (by omega) (by omega)
   simp only [hw]; exact ⟨⟨⟨by omega, by omega⟩, ⟨by omega, by omega⟩, Ck.mono (c := v36.2) h36 (by omega)⟩, by omega⟩
  unfold yke; refine (yip (by omega) yc a1 a2).bind fun v6 ⟨h6, hc6⟩ => ?_
  refine (ybh1 hc6 (by omega) _).bind fun v29 h29 => ?_
  refine Tot.ite (fun _ => ?_) (fun _ => k3 _ _ _ (by omega : B' + 120 + 2 + 2 + 30 ≤ B + 300) y2 y12 h6.gm h29)
  refine (yph h29 (by omega) _ (by simp)).bind fun v31 ⟨m31, h31⟩ => ?_
  simp only [List.mem_cons, List.not_mem_nil, or_false] at m31; exact (yoj1 h6 (by omega) (by omega)).bind fun v32 h32 => k3 _ _ _ (by omega : B' + 120 + 2 + 2 + 2 + 30 ≤ B + 300) y2 y12 h32 h31
 unfold yle
 refine (yph hc (by omega) _ (by simp)).bind fun v1 ⟨m1, h1⟩ => ?_
 simp only [List.mem_cons, List.not_mem_nil, or_false] at m1
 refine (ybh1 h1 (by omega) _).bind fun v38 h38 => ?_
 exact Tot.ite (fun _ => k1 _ _ (by omega : B + 2 + 2 + 250 ≤ B + 300) (by show (10 : Int) ≤ 10; omega) (by show (0 : Int) ≤ 10; omega) h38) (fun _ => k1 _ _ (by omega : B + 2 + 2 + 250 ≤ B + 300) (by show v1.1 ≤ 10; omega) (by show 0 ≤ v1.1; omega) h38)
theorem yiq1 {B : Nat} (hB : B ≤ 100000) {c : Cur} (hc : Ck B c) : Tot (ynd c) fun r => (2 ≤ r.1.length ∧ r.1.length ≤ 12) ∧ Ck (B + 320) r.2 := by
 unfold ynd
 refine (yph hc (by omega) _ (by simp)).bind fun v1 ⟨m1, h1⟩ => ?_
 simp only [List.mem_cons, List.not_mem_nil, or_false] at m1
 refine (yex (by omega) h1 (by omega) (by omega)).bind fun v2 ⟨l2, h2⟩ => ?_
 refine (ybh1 h2 (by omega) _).bind fun v3 h3 => ?_
 refine Tot.bind (P := fun _ => True) ?_ fun w _ => ?_
 ·refine Tot.ite (fun _ => Tot.ret trivial) (fun _ => ?_)
  rw [(ydc v2.1 (by omega)).1, Option.bind_some]; exact Tot.ret trivial
 refine Tot.ite (fun _ => ?_) (fun _ => Tot.ret ⟨l2, Ck.mono (c := v3.2) h3 (by omega)⟩)
 refine (yph h3 (by omega) _ (by simp)).bind fun v7 ⟨m7, h7⟩ => ?_
 simp only [List.mem_cons, List.not_mem_nil, or_false] at m7
 refine (yip (by omega) h7 (by omega) (by omega)).bind fun v8 ⟨h8, hc8⟩ => ?_
 unfold yjb
 simp only [Option.bind_some]
 exact (yqs _ _).bind fun v11 _ => Tot.ret ⟨⟨by simp, by simp⟩, Ck.mono (c := v8.2) hc8 (by omega)⟩
theorem ych1 {B : Nat} (hB : B ≤ 100000) {c : Cur} (hc : Ck B c) : Tot (yye c) fun r => r.1.length ≤ 13 ∧ Ck (B + 350) r.2 := by
 unfold yye yib
 refine (yiq1 hB hc).bind fun v1 ⟨⟨l2, l12⟩, h1⟩ => ?_
 refine (ynk h1 (by omega) _).bind fun v2 ⟨⟨p1, p2⟩, h2⟩ => ?_
 refine Tot.idx p1 (p2 (by omega)) fun v3 _ => ?_
 refine (ynk h2 (by omega) _).bind fun v5 ⟨_, h5⟩ => ?_
 refine Tot.ite (fun _ => ?_) (fun _ => Tot.ite (fun _ => ?_) (fun _ => Tot.ite (fun _ => ?_) (fun _ => Tot.ite (fun _ => ?_) (fun _ => Tot.ite (fun _ => ?_) (fun _ => Tot.ret ⟨by show v1.1.length ≤ 13; omega, Ck.mono (c := v5.2) h5 (by omega)⟩)))))
 ·exact (yly (by omega) h5).bind fun v7 h7 => Tot.ret ⟨by show (v1.1.set _ _).length ≤ 13; rw [List.length_set]; omega, Ck.mono (c := v7.2) h7 (by omega)⟩
 ·exact (yly (by omega) h5).bind fun v7 h7 => Tot.ret ⟨by show (v1.1.set _ _).length ≤ 13; rw [List.length_set]; omega, Ck.mono (c := v7.2) h7 (by omega)⟩
 ·refine (yph h5 (by omega) _ (by simp)).bind fun v11 ⟨_, h11⟩ => ?_
  exact (yqs _ _).bind fun v12 _ => Tot.ret ⟨by show (v1.1.set _ _).length ≤ 13; rw [List.length_set]; omega, Ck.mono (c := v11.2) h11 (by omega)⟩
 ·exact Tot.ret ⟨by simp, Ck.mono (c := v5.2) h5 (by omega)⟩
 refine Tot.bind (P := fun y : List Int × Int × Int × List Pt => y.2.2.2.length ≤ 13 ∧ cur4 y = v5.2) ?_ fun y ⟨hy, hyc⟩ => Tot.ret ⟨hy, ?_⟩
 ·refine Tot.loop (fun x => x.length ≤ 13) (fun x => 13 - x.length) (fun x hx => ?_) _ (by simp)
  unfold yqh; refine Tot.ite (fun hk => ?_) (fun hk => Tot.inr ⟨hx, rfl⟩)
  have hk' : (x.length : Int) < 13 := of_decide_eq_true hk
  rw [ymd _ 12 (by omega) (by omega) (by omega) (by omega) (by omega), Option.bind_some]; exact Tot.guard (by simp; omega) (Tot.inl ⟨by simp; omega, by simp; omega⟩)
 show Ck _ (cur4 y)
 rw [hyc]; exact Ck.mono (c := v5.2) h5 (by omega)
theorem yid1 {B : Nat} (hB : B ≤ 100000) {c : Cur} (hc : Ck B c) : Tot (yce c) fun r => Ck (B + 30) r.2 := by
 unfold yce
 refine (yph hc (by omega) _ (by simp)).bind fun v1 ⟨m1, h1⟩ => ?_
 simp only [List.mem_cons, List.not_mem_nil, or_false] at m1
 refine (yip (by omega) h1 (by omega) (by omega)).bind fun v2 ⟨_, h2⟩ => ?_
 refine (ynk h2 (by omega) _).bind fun v3 ⟨_, h3⟩ => ?_
 refine Tot.ite (fun _ => ?_) (fun _ => Tot.ite (fun _ => ?_) (fun _ => Tot.ite (fun _ => ?_) (fun _ => Tot.ret (Ck.mono (c := v3.2) h3 (by omega)))))
 ·exact (yph h3 (by omega) _ (by simp)).bind fun v5 ⟨_, h5⟩ => (yqs _ _).bind fun v6 _ => Tot.ret (Ck.mono (c := v5.2) h5 (by omega))
 ·exact (yph h3 (by omega) _ (by simp)).bind fun v5 ⟨_, h5⟩ => Tot.ret (Ck.mono (c := v5.2) h5 (by omega))
 exact (yly (by omega) h3).bind fun v10 h10 => Tot.ret (Ck.mono (c := v10.2) h10 (by omega))
end Go.PV

/-
 Plain laws: numerals.
 Conditions: none.
-/
set_option linter.all false
namespace Go.PV
def decB (n : Nat) : ByteArray := ⟨(Lib.decDigits n).toArray⟩
theorem yxm1 (a b : List UInt8) : (ByteArray.mk a.toArray) ++ (ByteArray.mk b.toArray) = ByteArray.mk (a ++ b).toArray := by
 apply ByteArray.ext
 rw [ByteArray.data_append]
 simp
theorem yja1 (a : List UInt8) : (ByteArray.mk a.toArray).size = a.length := by simp [ByteArray.size]
theorem yjd1 (n : Nat) : (Lib.decDigits n).length ≤ n + 1 := by
 induction n using Nat.strongRecOn with
 | ind n ih =>
  unfold Lib.decDigits; split
  ·simp
  rename_i h; have := ih (n / 10) (by omega)
  simp only [List.length_append, List.length_singleton]; omega
theorem yfx {d : Nat} (hd : d < 10) : byteB (IntKind.wrap .u8 (w64 (48 + (d : Int)))) = ByteArray.mk [UInt8.ofNat (48 + d)].toArray := by
 have h : IntKind.wrap .u8 (w64 (48 + (d : Int))) = ((48 + d : Nat) : Int) := by
  rw [yka (by omega) (by omega)]; simp [IntKind.wrap, IntKind.bits, IntKind.signed]
  omega
 rw [h]; rfl
theorem yxv {rc : Int → Option ByteArray} {n : Nat} (hn : n ≤ 1000000000) (h : 10 ≤ n → rc ((n / 10 : Nat) : Int) = some (decB (n / 10))) : yyg rc (n : Int) = some (decB n) := by
 unfold yyg
 by_cases h1 : n < 10
 ·rw [if_pos (decide_eq_true (by omega)), yfx h1]
  unfold decB Lib.decDigits
  rw [dif_pos h1]
 rw [if_neg (by simp; omega)]
 have e1 : Int.tdiv (n : Int) 10 = ((n / 10 : Nat) : Int) := by rw [Int.tdiv_eq_ediv_of_nonneg (by omega)]; omega
 have e2 : Int.tmod (n : Int) 10 = ((n % 10 : Nat) : Int) := by rw [Int.tmod_eq_emod_of_nonneg (by omega)]; omega
 have hd : n % 10 < 10 := Nat.mod_lt _ (by omega)
 have hl := yjd1 (n / 10)
 rw [e1, e2, yka (n := ((n / 10 : Nat) : Int)) (by omega) (by omega), h (by omega), Option.bind_some, yfx hd]
 have hs : (decB (n / 10)).size + (ByteArray.mk [UInt8.ofNat (48 + n % 10)].toArray).size ≤ 1099511627776 := by
  unfold decB; rw [yja1, yja1]; simp only [List.length_singleton]; omega
 rw [yda hs]
 unfold decB
 rw [yxm1]
 conv => rhs; unfold Lib.decDigits
 rw [dif_neg h1]
theorem ykd1 : ∀ (k n : Nat), n ≤ 1000000000 → n < k → yse k (n : Int) = some (decB n)
 | 0, n, _, h => by omega
 | k + 1, n, hn, h => yxv hn fun h10 => ykd1 k (n / 10) (by omega) (by omega)
theorem yka1 : ∀ (k n : Nat) (r : ByteArray), n ≤ 1000000000 → yse k (n : Int) = some r → r = decB n
 | 0, n, r, _, h => by cases h
 | k + 1, n, r, hn, h => by
  by_cases h10 : 10 ≤ n
  ·have h' : yyg (yse k) (n : Int) = some r := h
   cases hq : yse k ((n / 10 : Nat) : Int) with
   | none =>
    unfold yyg at h'
    have e1 : Int.tdiv (n : Int) 10 = ((n / 10 : Nat) : Int) := by rw [Int.tdiv_eq_ediv_of_nonneg (by omega)]; omega
    rw [if_neg (by simp; omega), e1, yka (n := ((n / 10 : Nat) : Int)) (by omega) (by omega), hq] at h'
    cases h'
   | some r' =>
    have := yka1 k (n / 10) r' (by omega) hq
    subst this; have := yxv (rc := yse k) hn fun _ => hq
    rw [this] at h'
    exact (Option.some.inj h').symm
  have := yxv (rc := yse k) hn fun h => absurd h h10
  have h' : yyg (yse k) (n : Int) = some r := h
  rw [this] at h'
  exact (Option.some.inj h').symm
theorem yjp {n : Nat} (hn : n ≤ 1000000000) : ytl (n : Int) = some (decB n) := by
 unfold ytl
 exact yam1 (n + 1) (ykd1 (n + 1) n hn (by omega)) fun k r h => yka1 k n r hn h
theorem yla1 {n : Int} (h1 : -1000000000 ≤ n) (h2 : n ≤ 1000000000) : (itoaB n).size ≤ 1000000002 := by
 unfold itoaB Lib.itoa
 rw [yja1]
 split
 ·have := yjd1 n.natAbs; simp only [List.length_cons]; omega
 have := yjd1 n.toNat; omega
theorem yma1 {n : Int} (h1 : -1000000000 ≤ n) (h2 : n ≤ 1000000000) : ypp n = some (itoaB n) := by
 unfold ypp
 by_cases h : n < 0
 ·obtain ⟨m, rfl⟩ : ∃ m : Nat, n = -(m : Int) := ⟨n.natAbs, by omega⟩
  have e : w64 (0 - -(m : Int)) = (m : Int) := by rw [yka (by omega) (by omega)]; omega
  rw [if_pos (decide_eq_true h), e, yjp (by omega), Option.bind_some]; have hl := yjd1 m; have hs : (ByteArray.mk #[45]).size + (decB m).size ≤ 1099511627776 := by
   unfold decB; rw [show (ByteArray.mk #[45]).size = 1 from rfl, yja1]; omega
  rw [yda hs]; unfold itoaB Lib.itoa decB
  rw [if_pos h, show (ByteArray.mk #[45]) = ByteArray.mk [45].toArray from rfl, yxm1, show (-(m : Int)).natAbs = m by omega]
  rfl
 obtain ⟨m, rfl⟩ := Int.eq_ofNat_of_zero_le (show 0 ≤ n by omega)
 rw [if_neg (by simpa using h), yjp (by omega), Option.bind_some]
 unfold itoaB Lib.itoa decB
 rw [if_neg h, Int.toNat_natCast]
theorem yuq {n : Int} (h1 : -1000000000 ≤ n) (h2 : n ≤ 1000000000) : strconv_Itoa n = some (itoaB n) := by
 unfold strconv_Itoa
 rw [yda ⟨by omega, by omega⟩]
def ratB (r : Int × Int) : ByteArray := itoaB r.1 ++ ByteArray.mk #[47] ++ itoaB r.2
theorem ypg {r : Int × Int} (h : isRat r = true) : yhh r = some (ratB r) ∧ yqf r = some (ratB r) ∧ (ratB r).size ≤ 3000000000 := by
 obtain ⟨r1, r2, r3, r4, _⟩ := isRat_iff.1 h
 have a := yla1 (n := r.1) (by omega) (by omega)
 have b := yla1 (n := r.2) (by omega) (by omega)
 have c : (ByteArray.mk #[47]).size = 1 := rfl
 have g1 : (itoaB r.1).size + (ByteArray.mk #[47]).size ≤ 1099511627776 := by omega
 have g2 : (itoaB r.1 ++ ByteArray.mk #[47]).size + (itoaB r.2).size ≤ 1099511627776 := by rw [ByteArray.size_append]; omega
 have hnum : ytl r.2 = some (itoaB r.2) := by
  obtain ⟨m, hm⟩ := Int.eq_ofNat_of_zero_le (show 0 ≤ r.2 by omega)
  rw [hm, yjp (by omega)]; unfold itoaB Lib.itoa decB
  rw [if_neg (by omega), Int.toNat_natCast]
 refine ⟨?_, ?_, ?_⟩
 ·unfold yhh
  rw [yma1 (by omega) (by omega), Option.bind_some, yda g1, hnum, Option.bind_some, yda g2]; rfl
 ·unfold yqf
  rw [yuq (by omega) (by omega), Option.bind_some, yda g1, yuq (by omega) (by omega), Option.bind_some, yda g2]; rfl
 unfold ratB
 rw [ByteArray.size_append, ByteArray.size_append]; omega
end Go.PV

/-
 Plain laws: texts of lifts.
 Conditions: none.
-/
set_option linter.all false
namespace Go.PV
theorem ydh1 (a b : ByteArray) : bytesL (a ++ b) = bytesL a ++ bytesL b := by
 unfold bytesL
 rw [← List.map_append, ← Array.toList_append, ByteArray.data_append]
theorem yna1 (b : ByteArray) : (bytesL b).length = b.size := by
 unfold bytesL
 rw [List.length_map, Array.length_toList]
 rfl
theorem yqj1 (b : ByteArray) : bytesOk (bytesL b) = true := by
 unfold bytesOk bytesL
 rw [List.all_map, List.all_eq_true]
 intro x _
 have := x.toNat_lt
 simp only [Function.comp, Bool.and_eq_true, decide_eq_true_eq]
 omega
theorem yym1 (b : ByteArray) : bytesB (bytesL b) = b := by
 unfold bytesB bytesL
 rw [List.map_map]
 apply ByteArray.ext
 simp only [Function.comp_def, Int.toNat_natCast, UInt8.ofNat_toNat, List.map_id', Array.toArray_toList]
def ptB (q : Pt) : ByteArray := ratB q.1 ++ ByteArray.mk #[32] ++ ratB q.2 ++ ByteArray.mk #[59]
def txtB : List Pt → ByteArray
 | [] => ByteArray.empty
 | q :: l => ptB q ++ txtB l
theorem yic1 : ∀ (l l' : List Pt), txtB (l ++ l') = txtB l ++ txtB l'
 | [], l' => by show txtB l' = ByteArray.empty ++ txtB l'; rw [ByteArray.empty_append]
 | q :: l, l' => by show ptB q ++ txtB (l ++ l') = (ptB q ++ txtB l) ++ txtB l'; rw [yic1 l l', ByteArray.append_assoc]
def ratP (q : Pt) : Bool := isRat q.1 && isRat q.2
theorem yeh1 {q : Pt} (h : ratP q = true) : (ptB q).size ≤ 6000000002 ∧ 1 ≤ (ptB q).size := by
 simp only [ratP, Bool.and_eq_true] at h
 obtain ⟨_, _, z1⟩ := ypg h.1
 obtain ⟨_, _, z2⟩ := ypg h.2
 have c1 : (ByteArray.mk #[32]).size = 1 := rfl
 have c2 : (ByteArray.mk #[59]).size = 1 := rfl
 unfold ptB
 rw [ByteArray.size_append, ByteArray.size_append, ByteArray.size_append]
 omega
theorem yld1 : ∀ {l : List Pt}, l.all ratP = true → (txtB l).size ≤ 6000000002 * l.length
 | [], _ => by show (0 : Nat) ≤ _; omega
 | q :: l, h => by
  simp only [List.all_cons, Bool.and_eq_true] at h; have a := (yeh1 h.1).1
  have b := yld1 h.2; show (ptB q ++ txtB l).size ≤ _
  rw [ByteArray.size_append, List.length_cons]; omega
theorem ymd1 {q : Pt} (h : ratP q = true) {n : Nat} (hn : n ≤ 12 * 6000000002) :
  yhh q.1 = some (ratB q.1) ∧ yqf q.1 = some (ratB q.1) ∧ yhh q.2 = some (ratB q.2) ∧ yqf q.2 = some (ratB q.2) ∧
  ((ratB q.1).size + (ByteArray.mk #[32]).size ≤ 1099511627776) ∧ ((ratB q.1 ++ ByteArray.mk #[32]).size + (ratB q.2).size ≤ 1099511627776) ∧ (((ratB q.1 ++ ByteArray.mk #[32]) ++ ratB q.2).size + (ByteArray.mk #[59]).size ≤ 1099511627776) ∧
  (n + (((ratB q.1 ++ ByteArray.mk #[32]) ++ ratB q.2) ++ ByteArray.mk #[59]).size ≤ 1099511627776) := by
 have hp := h
 simp only [ratP, Bool.and_eq_true] at h
 obtain ⟨s1, i1, z1⟩ := ypg h.1
 obtain ⟨s2, i2, z2⟩ := ypg h.2
 have c1 : (ByteArray.mk #[32]).size = 1 := rfl
 have c2 : (ByteArray.mk #[59]).size = 1 := rfl
 refine ⟨s1, i1, s2, i2, ?_, ?_, ?_, ?_⟩
 ·omega
 ·rw [ByteArray.size_append]; omega
 ·rw [ByteArray.size_append, ByteArray.size_append]; omega
 rw [ByteArray.size_append, ByteArray.size_append, ByteArray.size_append]; omega
theorem ynd1 {l : List Pt} (h : l.all ratP = true) (hl : l.length ≤ 12) (i : Nat) : (txtB (l.take i)).size ≤ 12 * 6000000002 := by
 have h2 : (l.take i).all ratP = true := List.all_eq_true.2 fun x hx => List.all_eq_true.1 h x (List.mem_of_mem_take hx)
 have := yld1 h2
 have h3 : (l.take i).length ≤ 12 := by rw [List.length_take]; omega
 have : 6000000002 * (l.take i).length ≤ 6000000002 * 12 := Nat.mul_le_mul_left _ h3
 omega
theorem yod1 (l : List Pt) {i : Nat} (hi : i < l.length) : txtB (l.take i) ++ ptB l[i] = txtB (l.take (i + 1)) := by
 rw [List.take_succ_eq_append_getElem hi, yic1]
 show _ = txtB (l.take i) ++ (ptB l[i] ++ ByteArray.empty)
 rw [ByteArray.append_empty]
theorem yqk {l : List Pt} (h : l.all ratP = true) (hl : l.length ≤ 12) : yxj l = some (txtB l) := by
 have hx := yae (body := yih l) l.length (fun i => (txtB (l.take i), (i : Int))) (txtB l) (fun i hi => by
  obtain ⟨a1, a2, a3, a4, g1, g2, g3, g4⟩ := ymd1 (List.all_eq_true.1 h _ (List.getElem_mem hi)) (ynd1 h hl i)
  simp only [yih, show ((i : Int) < (l.length : Int)) from by omega, decide_true, if_true, yhs hi, Option.bind_some, a1, a3]; rw [yda g1, yda g2, yda g3, yda g4, ywe (show i < 9223372036854775807 by omega)]
  have := yod1 l hi
  unfold ptB at this; rw [this]) (by simp [yih])
 unfold yxj
 have hx' : loopO (yih l) (ByteArray.empty, 0) = some (txtB l) := hx
 rw [hx']
 rfl
theorem ytt {l : List Pt} (h : l.all ratP = true) (hl : l.length ≤ 12) (h0 : 0 < l.length) : ydi l = some (txtB l) := by
 have hx := yae (body := ysd l) l.length (fun i => (bytesL (txtB (l.take i)), (i : Int))) (bytesL (txtB l)) (fun i hi => by
  obtain ⟨a1, a2, a3, a4, g1, g2, g3, g4⟩ := ymd1 (List.all_eq_true.1 h _ (List.getElem_mem hi)) (ynd1 h hl i)
  simp only [ysd, show ((i : Int) < (l.length : Int)) from by omega, decide_true, if_true, yhs hi, Option.bind_some, a2, a4]; rw [yda g1, yda g2, yda g3]
  simp only [yic, yad, Option.bind_some, yna1]; rw [yda g4, ywe (show i < 9223372036854775807 by omega)]; have := yod1 l hi
  unfold ptB at this; simp only [Option.bind_some, ← ydh1, this]) (by simp [ysd])
 unfold ydi
 have hx' : loopO (ysd l) ([], 0) = some (bytesL (txtB l)) := hx
 rw [hx']
 simp only [Option.bind_some, yjh, ype]
 have hne : bytesL (txtB l) ≠ [] := by
  cases l with
  | nil => simp at h0
  | cons q l =>
   intro he; have := congrArg List.length he
   rw [yna1] at this; have hq := (yeh1 (List.all_eq_true.1 h q (by simp))).2
   have e : (txtB (q :: l)).size = (ptB q).size + (txtB l).size := ByteArray.size_append
   rw [e] at this; have h00 : ([] : List Int).length = 0 := rfl
   omega
 rw [yda ⟨hne, yqj1 _⟩, yym1]
 rfl
theorem ysf {f : List Pt} (h : isLift f = true) : f.all ratP = true ∧ f.length ≤ 12 ∧ 2 ≤ f.length := by
 obtain ⟨n, p, rfl, hT⟩ := yhn h
 refine ⟨List.all_eq_true.2 fun q hq => ?_, by rw [yzd]; exact hT.cur.hi, by rw [yzd]; exact hT.cur.lo⟩
 obtain ⟨i, hi, rfl⟩ := tab_mem.1 hq
 simp only [ratP, Bool.and_eq_true]
 exact ⟨yvd (hT.cur.x i hi), (hT.cur.y i hi).1⟩
theorem yoa1 (f : List Pt) (hl : f.length ≤ 4611686018427387904) : ykk f = some (if isLift f = true then (txtB f, true) else (ByteArray.empty, false)) ∧ yjk f = some (if isLift f = true then (txtB f, true) else (ByteArray.empty, false)) := by
 obtain ⟨e1, e2⟩ := ydc f hl
 unfold ykk yjk
 rw [e1, e2]
 cases h : isLift f
 ·exact ⟨rfl, rfl⟩
 obtain ⟨h1, h2, h3⟩ := ysf h
 simp only [Option.bind_some, Bool.not_true, Bool.false_eq_true, if_false, if_true, yqk h1 h2, ytt h1 h2 (by omega), and_self]
end Go.PV

/-
 Plain laws: kneading words.
 Conditions: none.
-/
set_option linter.all false
namespace Go.PV
abbrev lcr : ByteArray := ByteArray.mk #[76, 67, 82]
def letter (c z : Rt) : Int := 76 + (if cmp z c = 0 then -9 else if cmp z c = 1 then 6 else 0)
def wordB (c : Rt) (l : List Rt) : ByteArray := bytesB (l.map (letter c))
end Go.PV

/-
 Plain laws: words and heights.
 Conditions: none.
-/
set_option linter.all false
set_option maxRecDepth 100000
namespace Go.PV
def isLet (b : UInt8) : Bool := b == 76 || b == 67 || b == 82
def wordOk (s : ByteArray) : Bool := s.data.toList.all isLet
theorem yje1 (b : ByteArray) : ∀ (k i : Nat) (r : List UInt8), b.size - i = k → ByteArray.toList.loop b i r = r.reverse ++ b.data.toList.drop i := by
 intro k
 induction k with
 | zero =>
  intro i r h; rw [ByteArray.toList.loop, if_neg (by omega)]; rw [List.drop_eq_nil_of_le (by rw [Array.length_toList]; exact Nat.le_of_sub_eq_zero h)]
  simp
 | succ k ih =>
  intro i r h; have hi : i < b.size := by omega
  rw [ByteArray.toList.loop, if_pos hi, ih (i + 1) _ (by omega)]; have hl : i < b.data.toList.length := by rw [Array.length_toList]; exact hi
  rw [List.drop_eq_getElem_cons hl]; have : b.get! i = b.data.toList[i] := by
   have hi' : i < b.data.size := hi
   simp [ByteArray.get!, getElem!_pos b.data i hi']
  simp [this]
theorem ypd1 (b : ByteArray) : b.toList = b.data.toList := by
 unfold ByteArray.toList
 rw [yje1 b b.size 0 [] rfl]
 simp
def ints (s : ByteArray) : List Int := s.data.toList.map fun b => (b.toNat : Int)
theorem yzm1 (s : ByteArray) : (ints s).length = s.size := by
 unfold ints
 rw [List.length_map, Array.length_toList]
 rfl
theorem yfh1 (s : ByteArray) {i : Nat} (h : i < s.size) : strAt s (i : Int) = (ints s)[i]'(by rw [yzm1]; exact h) := by
 unfold strAt
 rw [dif_pos ⟨by omega, by omega⟩]
 simp [ints]
 rfl
def isL (x : Int) : Bool := x == 76 || x == 67 || x == 82
def rk (x : Int) : Int := if x = 76 then 0 else if x = 67 then 1 else 2
def kcW : Int → List Int → List Int → Int
 | e, x :: xs, y :: ys => if x = y then (if x = 82 then kcW (-e) xs ys else kcW e xs ys) else if rk x < rk y then -e else e
 | _, _, _ => 0
end Go.PV

/-
 Plain laws: texts in pieces.
 Conditions: none.
-/
set_option linter.all false
set_option maxRecDepth 100000
namespace Go.PV
def mkB (l : List UInt8) : ByteArray := ⟨l.toArray⟩
theorem yyk1 (s : ByteArray) : mkB s.data.toList = s := by
 apply ByteArray.ext
 simp [mkB]
theorem yyv (l : List UInt8) : (mkB l).data.toList = l := by simp [mkB]
theorem ynb (l : List UInt8) : (mkB l).size = l.length := yja1 l
theorem yvq (a b : List UInt8) : mkB (a ++ b) = mkB a ++ mkB b := (yxm1 a b).symm
theorem ypa1 (a b : ByteArray) : (a.toList == b.toList) = decide (a = b) := by
 rw [ypd1, ypd1]
 by_cases h : a = b
 ·simp [h]
 have : a.data.toList ≠ b.data.toList := fun e => h (by rw [← yyk1 a, e, yyk1])
 rw [decide_eq_false h, beq_eq_false_iff_ne]
 exact this
theorem yzv {l : List UInt8} {i : Nat} (h : i < l.length) : strAt (mkB l) (i : Int) = (l[i].toNat : Int) := by
 rw [yfh1 _ (by rw [ynb]; exact h)]
 simp [ints, mkB]
theorem ybv (l : List UInt8) (i j : Nat) (h : i ≤ j) : strCut (mkB l) (i : Int) (j : Int) = mkB ((l.take j).drop i) := by
 apply ByteArray.ext
 simp [strCut, mkB, ByteArray.data_extract, List.extract]
 rw [List.drop_take]
def spN (l : List UInt8) (c : UInt8) : Nat → List ByteArray × Nat
 | 0 => ([], 0)
 | i + 1 => if l[i]? = some c then ((spN l c i).1 ++ [mkB ((l.take i).drop (spN l c i).2)], i + 1) else spN l c i
def spl (l : List UInt8) (c : UInt8) : List ByteArray := (spN l c l.length).1 ++ [mkB (l.drop (spN l c l.length).2)]
theorem ygh1 (l : List UInt8) (c : UInt8) : ∀ i, (spN l c i).2 ≤ i ∧ (spN l c i).1.length ≤ i ∧ ∀ x ∈ (spN l c i).1, x.size ≤ l.length
 | 0 => ⟨Nat.le_refl _, Nat.le_refl _, fun x hx => by cases hx⟩
 | i + 1 => by
  obtain ⟨a, b, d⟩ := ygh1 l c i; unfold spN; split
  ·refine ⟨Nat.le_refl _, by rw [List.length_append]; simp; omega, fun x hx => ?_⟩
   rcases List.mem_append.1 hx with hx | hx
   ·exact d x hx
   rw [List.mem_singleton.1 hx, ynb, List.length_drop, List.length_take]; omega
  exact ⟨by omega, by omega, d⟩
theorem yjq1 (l : List UInt8) (c : UInt8) : 1 ≤ (spl l c).length ∧ (spl l c).length ≤ l.length + 1 := by
 have := (ygh1 l c l.length).2.1
 unfold spl
 rw [List.length_append]
 simp; omega
theorem yjc1 (l : List UInt8) (c : UInt8) : ∀ x ∈ spl l c, x.size ≤ l.length := fun x hx => by
 rcases List.mem_append.1 hx with hx | hx
 ·exact (ygh1 l c l.length).2.2 x hx
 rw [List.mem_singleton.1 hx, ynb, List.length_drop]; omega
theorem ywf (l : List UInt8) (c : UInt8) (h : l.length ≤ 1048576) : yxg (mkB l) (c.toNat : Int) = some (spl l c) := by
 have hx := yae (body := ybg (mkB l) (c.toNat : Int)) l.length (fun i => ((spN l c i).1, ((spN l c i).2 : Int), (i : Int))) ((spN l c l.length).1, ((spN l c l.length).2 : Int)) (fun i hi => by
  obtain ⟨a, b, _⟩ := ygh1 l c i; have e : (l[i]? = some c) ↔ (l[i].toNat : Int) = (c.toNat : Int) := by
   rw [List.getElem?_eq_getElem hi, Option.some.injEq]; constructor
   ·rintro rfl; rfl
   intro e; exact UInt8.toNat_inj.1 (by omega)
  simp only [ybg, ynb, show ((i : Int) < (l.length : Int)) from by omega, decide_true, if_true]; rw [yda ⟨by omega, trivial⟩, yzv hi, ywe (show i < 9223372036854775807 by omega)]
  by_cases he : l[i]? = some c
  ·rw [if_pos (by simpa using e.1 he), yda ⟨by omega, by omega, by omega⟩, yda (by simp; omega), ybv _ _ _ a]
   have e1 : spN l c (i + 1) = ((spN l c i).1 ++ [mkB ((l.take i).drop (spN l c i).2)], i + 1) := by
    conv => lhs; unfold spN
    rw [if_pos he]
   rw [e1]
  rw [if_neg (by simpa using fun h => he (e.2 h))]; have e1 : spN l c (i + 1) = spN l c i := by
   conv => lhs; unfold spN
   rw [if_neg he]
  rw [e1]) (by simp [ybg, ynb])
 obtain ⟨a, b, _⟩ := ygh1 l c l.length
 unfold yxg
 have hx' : loopO (ybg (mkB l) (c.toNat : Int)) ([], 0, 0) = some ((spN l c l.length).1, ((spN l c l.length).2 : Int)) := hx
 rw [hx']
 simp only [Option.bind_some, ydk, ynb]
 rw [yda ⟨by omega, by omega⟩, yda (by simp; omega), ybv _ _ _ a, List.take_length]
 rfl
def glue (c : UInt8) : List (List UInt8) → List UInt8 → List UInt8
 | [], last => last
 | p :: ps, last => p ++ c :: glue c ps last
theorem yhh1 {l pre p post : List UInt8} {c : UInt8} {L : List ByteArray} {k : Nat} (hl : l = pre ++ (p ++ post)) (hp : c ∉ p) (h : spN l c pre.length = (L, k)) : ∀ j, j ≤ p.length → spN l c (pre.length + j) = (L, k)
 | 0, _ => h
 | j + 1, hj => by
  show spN l c (pre.length + j + 1) = _
  unfold spN; have e : l[pre.length + j]? = some p[j] := by
   rw [hl, List.getElem?_append_right (by omega), Nat.add_sub_cancel_left, List.getElem?_append_left (by omega), List.getElem?_eq_getElem (by omega)]
  rw [e, if_neg (fun h2 => hp (by rw [← Option.some.inj h2]; exact List.getElem_mem _))]
  exact yhh1 hl hp h j (by omega)
theorem yih1 {l : List UInt8} {c : UInt8} : ∀ (ps : List (List UInt8)) (last pre : List UInt8) (L : List ByteArray), (∀ p ∈ ps, c ∉ p) → c ∉ last → l = pre ++ glue c ps last → spN l c pre.length = (L, pre.length) → spl l c = L ++ (ps.map mkB ++ [mkB last])
 | [], last, pre, L, _, h2, hl, h => by
  have hl' : l = pre ++ (last ++ []) := by rw [hl, List.append_nil]; rfl
  have := yhh1 hl' h2 h last.length (Nat.le_refl _)
  have e : l.length = pre.length + last.length := by rw [hl']; simp
  unfold spl; rw [e, this]; simp only [List.map_nil, List.nil_append]; rw [hl', List.drop_left, List.append_nil]
 | p :: ps, last, pre, L, h1, h2, hl, h => by
  have hl' : l = pre ++ (p ++ (c :: glue c ps last)) := hl
  have a := yhh1 hl' (h1 p (by simp)) h p.length (Nat.le_refl _)
  have e : l[pre.length + p.length]? = some c := by
   rw [hl', List.getElem?_append_right (by omega), Nat.add_sub_cancel_left, List.getElem?_append_right (by omega), Nat.sub_self]; rfl
  have hl2 : l = (pre ++ p ++ [c]) ++ glue c ps last := by rw [hl']; simp
  have n : (pre ++ p ++ [c]).length = pre.length + p.length + 1 := by simp; omega
  have b : spN l c (pre ++ p ++ [c]).length = (L ++ [mkB p], (pre ++ p ++ [c]).length) := by
   rw [n]; unfold spN; rw [if_pos e, a]; have : (l.take (pre.length + p.length)).drop pre.length = p := by
    rw [hl', ← List.append_assoc, show pre.length + p.length = (pre ++ p).length by simp, List.take_left, List.drop_left]
   rw [this]
  have r := yih1 ps last _ (L ++ [mkB p]) (fun q hq => h1 q (by simp [hq])) h2 hl2 b
  rw [r]; simp
theorem yan1 {c : UInt8} (ps : List (List UInt8)) (last : List UInt8) (h1 : ∀ p ∈ ps, c ∉ p) (h2 : c ∉ last) : spl (glue c ps last) c = ps.map mkB ++ [mkB last] := yih1 (l := glue c ps last) ps last [] [] h1 h2 rfl rfl
def cutR (c : UInt8) : List UInt8 → List UInt8 × List UInt8 × Bool
 | [] => ([], [], false)
 | b :: l => if b = c then ([], l, true) else (b :: (cutR c l).1, (cutR c l).2)
theorem yjh1 : ∀ (l sub : List UInt8), -1 ≤ Lib.index l sub
 | [], sub => by unfold Lib.index; split <;> omega
 | b :: l, sub => by
  have := yjh1 l sub
  unfold Lib.index; split
  ·omega
  split
  ·omega
  omega
theorem ykq1 (c : UInt8) : ∀ l, Lib.cut l [c] = cutR c l
 | [] => rfl
 | b :: l => by
  have ih := ykq1 c l; unfold cutR; by_cases h : b = c
  ·rw [if_pos h]
   have e : Lib.index (b :: l) [c] = 0 := by unfold Lib.index; simp [List.isPrefixOf, h]
   unfold Lib.cut; rw [e]; rfl
  rw [if_neg h, ← ih]; have hp : ([c].isPrefixOf (b :: l)) = false := by simp [List.isPrefixOf, Ne.symm h]
  have e : Lib.index (b :: l) [c] = if Lib.index l [c] == -1 then -1 else Lib.index l [c] + 1 := by
   conv => lhs; unfold Lib.index
   rw [hp]; rfl
  have lo := yjh1 l [c]
  unfold Lib.cut; rw [e]; by_cases h2 : Lib.index l [c] = -1
  ·simp [h2]
  have h3 : 0 ≤ Lib.index l [c] := by omega
  obtain ⟨k, hk⟩ := Int.eq_ofNat_of_zero_le h3; have e2 : ((k : Int) == -1) = false := by rw [beq_eq_false_iff_ne]; omega
  rw [hk, e2]; simp [show (0 : Int) ≤ (k : Int) + 1 from by omega, show ((k : Int) + 1).toNat = k + 1 from by omega]
theorem ymy {c : UInt8} : ∀ {p : List UInt8} (q : List UInt8), c ∉ p → cutR c (p ++ c :: q) = (p, q, true)
 | [], q, _ => by simp [cutR]
 | b :: p, q, h => by
  simp only [List.mem_cons, not_or] at h; simp [cutR, ymy q h.2, Ne.symm h.1]
theorem yny {c : UInt8} : ∀ {l a b : List UInt8}, cutR c l = (a, b, true) → l = a ++ c :: b
 | [], a, b, h => by simp [cutR] at h
 | x :: l, a, b, h => by
  unfold cutR at h; split at h
  ·rename_i hx
   simp only [Prod.mk.injEq, and_true] at h; obtain ⟨rfl, rfl⟩ := h; rw [hx]; rfl
  simp only [Prod.mk.injEq] at h; obtain ⟨rfl, h2⟩ := h; have := yny (l := l) (a := (cutR c l).1) (b := b) (by rw [← h2])
  exact congrArg (x :: ·) this
theorem yoy (c : UInt8) : ∀ l, (cutR c l).1.length ≤ l.length ∧ (cutR c l).2.1.length ≤ l.length
 | [] => ⟨Nat.le_refl _, Nat.le_refl _⟩
 | x :: l => by
  obtain ⟨a, b⟩ := yoy c l; unfold cutR; split
  ·simp
  simp; omega
theorem ych (s : ByteArray) (c : UInt8) (h : s.size ≤ 1048576) : strings_Cut s (mkB [c]) = some (mkB (cutR c s.data.toList).1, mkB (cutR c s.data.toList).2.1, (cutR c s.data.toList).2.2) := by
 unfold strings_Cut cutB
 rw [yda (by omega), yyv, ykq1]
 rfl
end Go.PV

/-
 Plain laws: numerals read.
 Conditions: none.
-/
set_option linter.all false
set_option maxRecDepth 100000
namespace Go.PV
def isDig (b : UInt8) : Bool := decide (48 ≤ b.toNat) && decide (b.toNat ≤ 57)
theorem isDig_iff {b : UInt8} : isDig b = true ↔ 48 ≤ b.toNat ∧ b.toNat ≤ 57 := by simp [isDig]
def valD (a : Nat) (l : List UInt8) : Nat := l.foldl (fun a b => 10 * a + (b.toNat - 48)) a
theorem ykc1 (a : Nat) (l m : List UInt8) : valD a (l ++ m) = valD (valD a l) m := by unfold valD; rw [List.foldl_append]
theorem ykh1 : ∀ (l : List UInt8) (a : Nat), a ≤ valD a l
 | [], a => Nat.le_refl _
 | b :: l, a => by
  have := ykh1 l (10 * a + (b.toNat - 48))
  show a ≤ valD (10 * a + (b.toNat - 48)) l
  omega
theorem yrj1 (l : List UInt8) (a i : Nat) : valD a (l.take i) ≤ valD a l := by
 conv => rhs; rw [← List.take_append_drop i l, ykc1]
 exact ykh1 _ _
theorem digB {d : Nat} (h : d < 10) : (UInt8.ofNat (48 + d)).toNat = 48 + d := by
 rw [UInt8.toNat_ofNat']
 omega
theorem yut (n : Nat) : (Lib.decDigits n).all isDig = true ∧ valD 0 (Lib.decDigits n) = n ∧ Lib.decDigits n ≠ [] := by
 induction n using Nat.strongRecOn with
 | ind n ih =>
  unfold Lib.decDigits; split
  ·rename_i h
   refine ⟨?_, ?_, by simp⟩
   ·simp only [List.all_cons, List.all_nil, Bool.and_true, isDig_iff, digB h]; omega
   show 10 * 0 + ((UInt8.ofNat (48 + n)).toNat - 48) = n
   rw [digB h]; omega
  rename_i h; obtain ⟨a, b, c⟩ := ih (n / 10) (by omega)
  have hd : n % 10 < 10 := Nat.mod_lt _ (by omega)
  refine ⟨?_, ?_, by simp⟩
  ·rw [List.all_append, a]
   simp only [List.all_cons, List.all_nil, Bool.and_true, Bool.true_and, isDig_iff, digB hd]; omega
  rw [ykc1, b]; show 10 * (n / 10) + ((UInt8.ofNat (48 + n % 10)).toNat - 48) = n
  rw [digB hd]; omega
theorem ybn1 (n : Nat) : n < 10 ∨ ∃ b l, Lib.decDigits n = b :: l ∧ 49 ≤ b.toNat := by
 induction n using Nat.strongRecOn with
 | ind n ih =>
  by_cases h : n < 10
  ·exact .inl h
  refine .inr ?_
  unfold Lib.decDigits; rw [dif_neg h]; rcases ih (n / 10) (by omega) with h1 | ⟨b, l, h1, h2⟩
  ·have : Lib.decDigits (n / 10) = [UInt8.ofNat (48 + n / 10)] := by unfold Lib.decDigits; rw [dif_pos h1]
   exact ⟨_, _, by rw [this]; rfl, by rw [digB h1]; omega⟩
  exact ⟨b, l ++ _, by rw [h1]; rfl, h2⟩
theorem yqa1 : ∀ (k n : Nat), n < 10 ^ (k + 1) → (Lib.decDigits n).length ≤ k + 1
 | 0, n, h => by
  unfold Lib.decDigits; rw [dif_pos (by omega)]; simp
 | k + 1, n, h => by
  unfold Lib.decDigits; split
  ·simp
  have : n / 10 < 10 ^ (k + 1) := by
   rw [Nat.div_lt_iff_lt_mul (by omega)]; calc n < 10 ^ (k + 1 + 1) := h
    _ = 10 ^ (k + 1) * 10 := Nat.pow_succ ..
  have := yqa1 k (n / 10) this
  rw [List.length_append]; simp; omega
theorem yrs {n : Nat} (h : n ≤ 1000000000) : 1 ≤ (Lib.decDigits n).length ∧ (Lib.decDigits n).length ≤ 10 := by
 have a := yqa1 9 n (by omega)
 have b := (yut n).2.2
 refine ⟨?_, a⟩
 cases h : Lib.decDigits n with
 | nil => exact absurd h b
 | cons _ _ => simp
theorem ylq1 {n : Nat} {c : UInt8} (h : isDig c = false) : c ∉ Lib.decDigits n := fun hc => by
 have := List.all_eq_true.1 (yut n).1 c hc
 rw [h] at this; cases this
theorem yra1 {n : Int} {c : UInt8} (h : isDig c = false) (h2 : c ≠ 45) : c ∉ Lib.itoa n := by
 unfold Lib.itoa
 split
 ·simp only [List.mem_cons, not_or]; exact ⟨h2, ylq1 h⟩
 exact ylq1 h
theorem ypy {n : Int} (h1 : -1000000000 ≤ n) (h2 : n ≤ 1000000000) : 1 ≤ (Lib.itoa n).length ∧ (Lib.itoa n).length ≤ 11 := by
 unfold Lib.itoa
 split
 ·have := yrs (n := n.natAbs) (by omega); simp only [List.length_cons]; omega
 have := yrs (n := n.toNat) (by omega); omega
theorem yzk1 : ∀ (l : List UInt8) (a : Nat), l.all isDig = true → valD a l ≤ 1000000000 → Lib.parseUint10 a l = .ok (valD a l)
 | [], a, _, _ => rfl
 | b :: l, a, h, hv => by
  simp only [List.all_cons, Bool.and_eq_true] at h; have hb := isDig_iff.1 h.1; have hv' : valD (10 * a + (b.toNat - 48)) l ≤ 1000000000 := hv
  have hg := ykh1 l (10 * a + (b.toNat - 48))
  have e : a * 10 + (b.toNat - 48) = 10 * a + (b.toNat - 48) := by omega
  unfold Lib.parseUint10; rw [if_pos hb, if_neg (by omega), if_neg (by omega), e]; exact yzk1 l _ h.2 hv'
theorem yal1 {n : Nat} (h : n ≤ 1000000000) : Lib.parseMag (Lib.decDigits n) = .ok n := by
 obtain ⟨a, b, c⟩ := yut n
 unfold Lib.parseMag
 rw [if_neg c, yzk1 _ _ a (by rw [b]; exact h), b]
theorem yqd1 {n : Int} (h1 : -1000000000 ≤ n) (h2 : n ≤ 1000000000) : atoiV (itoaB n) = (n, true) := by
 have e : Lib.atoiAll (Lib.itoa n) = .ok n := by
  unfold Lib.itoa; by_cases h : n < 0
  ·rw [if_pos h, Lib.atoiAll_minus, yal1 (by omega)]
   unfold Lib.signed; simp only
   rw [if_neg (by omega), show -(n.natAbs : Int) = n by omega]
  rw [if_neg h]; obtain ⟨a, b, c⟩ := yut n.toNat; have hm := yal1 (n := n.toNat) (by omega)
  cases hd : Lib.decDigits n.toNat with
  | nil => exact absurd hd c
  | cons x l =>
   rw [hd] at a hm
   simp only [List.all_cons, Bool.and_eq_true] at a; have hx := isDig_iff.1 a.1; rw [Lib.atoiAll_plain x l (by omega) (by omega), hm]; unfold Lib.signless; simp only
   rw [if_neg (by omega), show (n.toNat : Int) = n by omega]
 unfold atoiV itoaB
 simp only
 rw [e]
theorem ykp (l : List UInt8) (h : l.length ≤ 1048576) : ∃ r, ybf (mkB l) = some r := by
 obtain ⟨y, hy, _⟩ := ygr (body := yjd (mkB l)) (fun x => ∃ i : Nat, x.2 = i ∧ i ≤ l.length) (fun x => l.length - x.2.toNat) (fun _ => True) (fun x hx => by
  obtain ⟨x1, x2⟩ := x; obtain ⟨i, hi, hl⟩ := hx; simp only at hi
  subst hi; by_cases hlt : i < l.length
  ·have g : (0 : Int) ≤ (i : Int) ∧ (i : Int) < ((mkB l).size : Int) := by rw [ynb]; omega
   simp only [yjd]; rw [if_pos (by rw [ynb]; simpa using hlt), yda g]
   split
   ·exact .inr ⟨_, rfl, trivial⟩
   refine .inl ⟨_, rfl, ⟨i + 1, ywe (show i < 9223372036854775807 by omega), by omega⟩, ?_⟩
   simp only [ywe (show i < 9223372036854775807 by omega)]; omega
  refine .inr ⟨.inr x1, ?_, trivial⟩
  simp only [yjd]; rw [if_neg (by rw [ynb]; simp; omega)]) (0, 0) ⟨0, rfl, by omega⟩
 unfold ybf
 rw [yki, Option.bind_some, hy]
 cases hb : inB 1 10 ((mkB l).size : Int)
 ·exact ⟨_, rfl⟩
 have hb' : 1 ≤ ((mkB l).size : Int) ∧ ((mkB l).size : Int) ≤ 10 := by simpa [inB] using hb
 simp only [Bool.not_true, Bool.false_eq_true, if_false]
 rw [yda ⟨by omega, by omega⟩]
 have fin : ∀ b : Bool, ∃ r, ((some b).bind fun w3 => if w3 = true then some (-1) else (some y).bind fun y7 => (Sum.elim (fun p => some p) (fun p => ytk p)) y7 : Option Int) = some r := fun b => by
  cases b
  ·cases y with
   | inl y => exact ⟨_, rfl⟩
   | inr y => exact ⟨_, rfl⟩
  exact ⟨_, rfl⟩
 split
 ·exact fin _
 exact fin _
theorem ylh1 {b : UInt8} (h : isDig b = true) : IntKind.wrap .i64 (IntKind.wrap .u8 ((b.toNat : Int) - 48)) = ((b.toNat - 48 : Nat) : Int) := by
 have hb := isDig_iff.1 h
 have h1 : IntKind.wrap .u8 ((b.toNat : Int) - 48) = ((b.toNat - 48 : Nat) : Int) := by
  simp only [IntKind.wrap, IntKind.bits, IntKind.signed]; simp
  omega
 rw [h1]
 exact yka (by omega) (by omega)
theorem ypm {n : Nat} (h : n ≤ 1000000000) : ybf (mkB (Lib.decDigits n)) = some (n : Int) := by
 obtain ⟨a, b, c⟩ := yut n
 obtain ⟨l1, l2⟩ := yrs h
 have hx := yae (body := yjd (mkB (Lib.decDigits n))) (Lib.decDigits n).length (fun i => ((valD 0 ((Lib.decDigits n).take i) : Int), (i : Int))) (.inr (n : Int)) (fun i hi => by
  have hd := List.all_eq_true.1 a _ (List.getElem_mem hi)
  have hb := isDig_iff.1 hd; have e : valD 0 ((Lib.decDigits n).take (i + 1)) = 10 * valD 0 ((Lib.decDigits n).take i) + ((Lib.decDigits n)[i].toNat - 48) := by
   rw [List.take_succ_eq_append_getElem hi, ykc1]; rfl
  have le := yrj1 (Lib.decDigits n) 0 (i + 1)
  rw [b] at le; simp only [yjd]; rw [if_pos (by rw [ynb]; simpa using hi), yda (by rw [ynb]; omega), yzv hi, if_neg (by simp; omega), ywe (show i < 9223372036854775807 by omega), ylh1 hd,
   yka (n := 10 * (valD 0 ((Lib.decDigits n).take i) : Int)) (by omega) (by omega), yka (by omega) (by omega), e]
  simp only [Int.natCast_add, Int.natCast_mul]; rfl) (by
   simp only [yjd]; rw [if_neg (by rw [ynb]; simp), List.take_length, b])
 have hx' : loopO (yjd (mkB (Lib.decDigits n))) (0, 0) = some (.inr (n : Int)) := hx
 unfold ybf
 rw [yki, Option.bind_some, hx', show inB 1 10 ((mkB (Lib.decDigits n)).size : Int) = true by rw [ynb]; simp [inB]; omega]
 simp only [Bool.not_true, Bool.false_eq_true, if_false]
 rw [yda (by rw [ynb]; omega)]
 have h0 : strAt (mkB (Lib.decDigits n)) 0 = ((Lib.decDigits n)[0].toNat : Int) := yzv (i := 0) l1
 rw [h0]
 by_cases h1 : n < 10
 ·have : Lib.decDigits n = [UInt8.ofNat (48 + n)] := by unfold Lib.decDigits; rw [dif_pos h1]
  simp only [ynb, this]; split <;> rfl
 rcases ybn1 n with h2 | ⟨x, l, h2, h3⟩
 ·exact absurd h2 h1
 rw [if_neg (by
  simp only [h2, List.getElem_cons_zero]; simp; omega)]
 rfl
end Go.PV

/-
 Plain laws: lifts turned.
 Conditions: none.
-/
set_option linter.all false
namespace Go.PV
section
variable {n : Nat} {p : Nat → Pt} {y : Rt}
def tnO (p : Nat → Pt) (y : Rt) (i : Nat) : Option Rt := addQ (p i).2 y
def tnB (p : Nat → Pt) (y : Rt) (i : Nat) : Bool := (List.range i).any fun j => (tnO p y j).isNone
def tnP (p : Nat → Pt) (y : Rt) (i : Nat) : Pt := ((p i).1, (cK false (tnO p y i)).1)
end
end Go.PV

/-
 Plain laws: lifts read.
 Conditions: none.
-/
set_option linter.all false
set_option maxRecDepth 100000
namespace Go.PV
theorem ysj1 (s : ByteArray) : (strCut s 1 (s.size : Int)).size ≤ s.size := by
 have := ybv s.data.toList 1 s.data.toList.length
 by_cases h : 1 ≤ s.data.toList.length
 ·have e := this h
  rw [yyk1, show (s.data.toList.length : Int) = (s.size : Int) by rw [Array.length_toList]; rfl] at e
  have e' : strCut s 1 (s.size : Int) = _ := e
  rw [e', ynb, List.length_drop, List.length_take, Array.length_toList]; show _ ≤ s.data.size
  omega
 unfold strCut
 rw [ByteArray.size_extract]
 simp
def ratL (r : Int × Int) : List UInt8 := Lib.itoa r.1 ++ 47 :: Lib.itoa r.2
theorem yss (r : Int × Int) : ratB r = mkB (ratL r) := by
 unfold ratB ratL
 rw [show (47 :: Lib.itoa r.2) = [47] ++ Lib.itoa r.2 from rfl, ← List.append_assoc, yvq, yvq]
 rfl
theorem yqy {r : Int × Int} (h : isRat r = true) : 3 ≤ (ratL r).length ∧ (ratL r).length ≤ 22 := by
 obtain ⟨r1, r2, r3, r4, _⟩ := isRat_iff.1 h
 have a := ypy (n := r.1) (by omega) (by omega)
 have b : 1 ≤ (Lib.itoa r.2).length ∧ (Lib.itoa r.2).length ≤ 10 := by
  unfold Lib.itoa; rw [if_neg (by omega)]; exact yrs (by omega)
 unfold ratL
 rw [List.length_append, List.length_cons]
 omega
theorem ysa1 {r : Int × Int} {c : UInt8} (h : isDig c = false) (h2 : c ≠ 45) (h3 : c ≠ 47) : c ∉ ratL r := by
 unfold ratL
 simp only [List.mem_append, List.mem_cons, not_or]
 exact ⟨yra1 h h2, h3, yra1 h h2⟩
theorem ycn1 (r : Int × Int) : cutR 47 (ratL r) = (Lib.itoa r.1, Lib.itoa r.2, true) := ymy _ (yra1 (by decide) (by decide))
theorem ydn1 (r : Int × Int) : spl (ratL r) 47 = [itoaB r.1, itoaB r.2] := by
 have := yan1 (c := 47) [Lib.itoa r.1] (Lib.itoa r.2) (fun p hp => by rw [List.mem_singleton.1 hp]; exact yra1 (by decide) (by decide)) (yra1 (by decide) (by decide))
 exact this
theorem ywq (s : ByteArray) (xs : List ByteArray) (k : Int) (hx : xs.length = 2) (hs : ∀ x ∈ xs, x.size ≤ 1048576) : ∃ r, ymb s (xs, k) = some r := by
 match xs, hx with
 | [x, y], _ =>
  have hx1 : x.data.toList.length ≤ 1048576 := by have := hs x (by simp); rwa [Array.length_toList]
  have hy1 : y.data.toList.length ≤ 1048576 := by have := hs y (by simp); rwa [Array.length_toList]
  obtain ⟨a, ha⟩ := ykp _ hx1; obtain ⟨b, hb⟩ := ykp _ hy1; rw [yyk1] at ha hb
  unfold ymb; have i0 : idxO [x, y] 0 = some x := rfl
  have i1 : idxO [x, y] 1 = some y := rfl
  simp only [i0, i1, Option.bind_some, ha, hb, ybh]; cases hg : isRat (w64 (k * a), b)
  ·exact ⟨_, rfl⟩
  obtain ⟨e, _, _⟩ := ypg hg; simp only [Bool.not_true, Bool.false_eq_true, if_false, e, Option.bind_some]; split <;> exact ⟨_, rfl⟩
theorem ylo (s : ByteArray) (h : s.size ≤ 1048576) : ∃ r, yzg s = some r := by
 have hl : s.data.toList.length ≤ 1048576 := by rwa [Array.length_toList]
 have e := ywf s.data.toList 47 hl
 rw [yyk1, show ((47 : UInt8).toNat : Int) = 47 from rfl] at e
 have hz := yjc1 s.data.toList 47
 generalize spl s.data.toList 47 = v at e hz
 unfold yzg
 rw [e, Option.bind_some]
 by_cases h1 : (s.size : Int) > 22
 ·rw [if_pos (decide_eq_true h1)]; exact ⟨_, rfl⟩
 rw [if_neg (by simpa using h1)]
 by_cases h2 : v.length = 2
 ·match v, h2, hz with
  | [x, y], _, hz =>
   have hx : x.data.toList.length ≤ 1048576 := Nat.le_trans (by rw [Array.length_toList]; exact Nat.le_refl _) (Nat.le_trans (hz x (by simp)) hl)
   have i0 : idxO [x, y] 0 = some x := rfl
   simp only [i0, Option.bind_some]; by_cases h3 : x.size = 0
   ·simp only [h3]; exact ⟨_, rfl⟩
   have g3 : ((x.size : Int) == 0) = false := by rw [beq_eq_false_iff_ne]; omega
   simp only [List.length_cons, List.length_nil, g3]; have zs : ∀ z ∈ ([x, y] : List ByteArray), z.size ≤ 1048576 := fun z hz2 => Nat.le_trans (hz z hz2) hl
   show ∃ r, ((guardO ((0 : Int) ≤ 0 ∧ 0 < (x.size : Int))).bind fun u15 => if ((strAt x 0) == 45) = true then (guardO ((0 : Int) ≤ 1 ∧ 1 ≤ (x.size : Int))).bind fun u17 => ymb s (([x, y].set (Int.toNat 0) (strCut x 1 (x.size : Int))), (-1)) else ymb s ([x, y], 1)) = some r
   rw [yda ⟨by omega, by omega⟩]; split
   ·rw [yda ⟨by omega, by omega⟩]
    refine ywq s _ _ rfl fun z hz2 => ?_
    rcases List.mem_cons.1 hz2 with rfl | hz2
    ·have t := ysj1 x
     have := zs x (by simp)
     omega
    exact zs z (by simp at hz2; simp [hz2])
   exact ywq s _ _ rfl zs
 have : ((v.length : Int) != 2) = true := by simp; omega
 simp only [this, if_true]
 exact ⟨_, rfl⟩
theorem ylp {r : Int × Int} (h : isRat r = true) : yzg (ratB r) = some (r, true) := by
 obtain ⟨r1, r2, r3, r4, _⟩ := isRat_iff.1 h
 obtain ⟨n1, n2⟩ := yqy h
 have e : yxg (ratB r) 47 = some [itoaB r.1, itoaB r.2] := by
  rw [yss, ← ydn1]; exact ywf (ratL r) 47 (by omega)
 have hsz : (ratB r).size = (ratL r).length := by rw [yss, ynb]
 have i1s : (itoaB r.1).size = (Lib.itoa r.1).length := ynb _
 have l1 := ypy (n := r.1) (by omega) (by omega)
 have d2 : ybf (itoaB r.2) = some r.2 := by
  have := ypm (n := r.2.toNat) (by omega)
  unfold itoaB Lib.itoa
  rw [if_neg (by omega)]; rw [show (r.2.toNat : Int) = r.2 by omega] at this; exact this
 have k1 : ∀ (x : ByteArray) (k a : Int), ybf x = some a → k * a = r.1 → ymb (ratB r) ([x, itoaB r.2], k) = some (r, true) := fun x k a hx hk => by
  unfold ymb; have i0 : idxO [x, itoaB r.2] 0 = some x := rfl
  have i1 : idxO [x, itoaB r.2] 1 = some (itoaB r.2) := rfl
  have hw : w64 (k * a) = r.1 := by rw [hk]; exact yka (by omega) (by omega)
  have hr : (r.1, r.2) = r := rfl
  obtain ⟨e, _, _⟩ := ypg h; simp only [i0, i1, Option.bind_some, hx, d2, hw, hr, ybh, h, Bool.not_true, Bool.false_eq_true, if_false, e, beq_self_eq_true]
 unfold yzg
 rw [e, Option.bind_some, if_neg (by rw [hsz]; simp; omega)]
 have i0 : idxO [itoaB r.1, itoaB r.2] 0 = some (itoaB r.1) := rfl
 have g3 : (((itoaB r.1).size : Int) == 0) = false := by rw [beq_eq_false_iff_ne]; omega
 simp only [i0, Option.bind_some, List.length_cons, List.length_nil, g3]
 show ((guardO ((0 : Int) ≤ 0 ∧ 0 < ((itoaB r.1).size : Int))).bind fun u15 => if ((strAt (itoaB r.1) 0) == 45) = true then (guardO ((0 : Int) ≤ 1 ∧ 1 ≤ ((itoaB r.1).size : Int))).bind fun u17 => ymb (ratB r) (([itoaB r.1, itoaB r.2].set (Int.toNat 0) (strCut (itoaB r.1) 1 ((itoaB r.1).size : Int))), (-1)) else ymb (ratB r) ([itoaB r.1, itoaB r.2], 1)) = some (r, true)
 rw [yda ⟨by omega, by omega⟩]
 by_cases hn : r.1 < 0
 ·have hi : itoaB r.1 = mkB (45 :: Lib.decDigits r.1.natAbs) := by unfold itoaB Lib.itoa; rw [if_pos hn]; rfl
  have h0 : strAt (itoaB r.1) 0 = 45 := by rw [hi]; exact yzv (l := 45 :: Lib.decDigits r.1.natAbs) (i := 0) (by simp)
  have hc : strCut (itoaB r.1) 1 ((itoaB r.1).size : Int) = mkB (Lib.decDigits r.1.natAbs) := by
   rw [hi, ynb]; have := ybv (45 :: Lib.decDigits r.1.natAbs) 1 (45 :: Lib.decDigits r.1.natAbs).length (by simp)
   rw [List.take_length] at this; exact this
  rw [h0, if_pos (show ((45 : Int) == 45) = true from rfl), yda ⟨by omega, by omega⟩, hc]; exact k1 _ _ _ (ypm (by omega)) (by omega)
 have hi : itoaB r.1 = mkB (Lib.decDigits r.1.toNat) := by unfold itoaB Lib.itoa; rw [if_neg hn]; rfl
 have hne := (yut r.1.toNat)
 have h0 : strAt (itoaB r.1) 0 ≠ 45 := by
  rw [hi]; have hl : 0 < (Lib.decDigits r.1.toNat).length := (yrs (n := r.1.toNat) (by omega)).1
  have := isDig_iff.1 (List.all_eq_true.1 hne.1 _ (List.getElem_mem hl))
  have e0 : strAt (mkB (Lib.decDigits r.1.toNat)) 0 = ((Lib.decDigits r.1.toNat)[0].toNat : Int) := yzv (i := 0) hl
  rw [e0]; omega
 rw [if_neg (by simpa using h0)]
 have d1 : ybf (itoaB r.1) = some r.1 := by
  have := ypm (n := r.1.toNat) (by omega)
  rw [show (r.1.toNat : Int) = r.1 by omega] at this; rw [hi]; exact this
 exact k1 _ _ _ d1 (by omega)
theorem yjn (s : ByteArray) (h : s.size ≤ 1048576) : ∃ r, ykf s = some r ∧ (r.2 = true → isRat r.1 = true ∧ ratB r.1 = s) := by
 have hc := ych s 47 h
 have hl : s.data.toList.length ≤ 1048576 := by rwa [Array.length_toList]
 have cl := yoy 47 s.data.toList
 generalize cutR 47 s.data.toList = c at hc cl
 unfold ykf
 rw [show (ByteArray.mk #[47]) = mkB [47] from rfl, hc]
 simp only [Option.bind_some, yyj]
 rw [yda (by rw [ynb]; omega), yda (by rw [ynb]; omega)]
 simp only [Option.bind_some, yif]
 cases c.2.2
 ·exact ⟨_, rfl, fun h => by cases h⟩
 cases (atoiV (mkB c.1)).2
 ·exact ⟨_, rfl, fun h => by cases h⟩
 cases (atoiV (mkB c.2.1)).2
 ·exact ⟨_, rfl, fun h => by cases h⟩
 cases hr : isRat ((atoiV (mkB c.1)).1, (atoiV (mkB c.2.1)).1)
 ·exact ⟨_, rfl, fun h => by cases h⟩
 obtain ⟨_, e, _⟩ := ypg hr
 simp only [Bool.not_true, Bool.false_eq_true, if_false, e, Option.bind_some, ypa1]
 by_cases hq : ratB ((atoiV (mkB c.1)).1, (atoiV (mkB c.2.1)).1) = s
 ·simp only [hq, decide_true, Bool.not_true, Bool.false_eq_true, if_false]
  exact ⟨_, rfl, fun _ => ⟨hr, hq⟩⟩
 simp only [hq, decide_false, Bool.not_false, if_true]
 exact ⟨_, rfl, fun h => by cases h⟩
theorem ymo {r : Int × Int} (h : isRat r = true) : ykf (ratB r) = some (r, true) := by
 obtain ⟨r1, r2, r3, r4, _⟩ := isRat_iff.1 h
 obtain ⟨n1, n2⟩ := yqy h
 have hc := ych (ratB r) 47 (by rw [yss, ynb]; omega)
 rw [show (ratB r).data.toList = ratL r by rw [yss, yyv], ycn1] at hc
 have l1 := ypy (n := r.1) (by omega) (by omega)
 have l2 := ypy (n := r.2) (by omega) (by omega)
 have a1 : atoiV (mkB (Lib.itoa r.1)) = (r.1, true) := yqd1 (by omega) (by omega)
 have a2 : atoiV (mkB (Lib.itoa r.2)) = (r.2, true) := yqd1 (by omega) (by omega)
 have hr : (r.1, r.2) = r := rfl
 obtain ⟨_, e, _⟩ := ypg h
 unfold ykf
 rw [show (ByteArray.mk #[47]) = mkB [47] from rfl, hc]
 simp only [Option.bind_some, yyj]
 rw [yda (by rw [ynb]; omega), yda (by rw [ynb]; omega)]
 simp only [a1, a2, hr, yif, h, Option.bind_some, Bool.not_true, Bool.false_eq_true, if_false, e, beq_self_eq_true]
end Go.PV

/-
 Plain laws: FnExactParseLift.
 Conditions: none.
-/
set_option linter.all false
set_option maxRecDepth 100000
namespace Go.PV
def ptL (q : Pt) : List UInt8 := ratL q.1 ++ 32 :: ratL q.2
def txtL (f : List Pt) : List UInt8 := glue 59 (f.map ptL) []
theorem ymq1 {q : Pt} : (59 : UInt8) ∉ ptL q := by
 unfold ptL
 simp only [List.mem_append, List.mem_cons, not_or]
 exact ⟨ysa1 (by decide) (by decide) (by decide), by decide, ysa1 (by decide) (by decide) (by decide)⟩
theorem ynq1 (q : Pt) : ptB q = mkB (ptL q ++ [59]) := by
 unfold ptB ptL
 rw [yss, yss, yvq, show (32 :: ratL q.2) = [32] ++ ratL q.2 from rfl, ← List.append_assoc, yvq, yvq]
 rfl
theorem yaw : ∀ f : List Pt, txtB f = mkB (txtL f)
 | [] => rfl
 | q :: f => by
  show ptB q ++ txtB f = mkB (ptL q ++ 59 :: txtL f)
  rw [yaw f, ynq1, show ptL q ++ 59 :: txtL f = (ptL q ++ [59]) ++ txtL f by simp, yvq (ptL q ++ [59])]
theorem yoq1 (q : Pt) : spl (ptL q) 32 = [ratB q.1, ratB q.2] := by
 have := yan1 (c := 32) [ratL q.1] (ratL q.2) (fun p hp => by rw [List.mem_singleton.1 hp]; exact ysa1 (by decide) (by decide) (by decide)) (ysa1 (by decide) (by decide) (by decide))
 rw [yss, yss]
 exact this
theorem yen1 (f : List Pt) : spl (txtL f) 59 = f.map (fun q => mkB (ptL q)) ++ [mkB []] := by
 have := yan1 (c := 59) (f.map ptL) [] (fun p hp => by obtain ⟨q, _, rfl⟩ := List.mem_map.1 hp; exact ymq1) (by simp)
 rw [List.map_map] at this
 exact this
theorem ymh1 {q : Pt} (h : ratP q = true) : (ptL q).length ≤ 45 ∧ 1 ≤ (ptL q).length := by
 simp only [ratP, Bool.and_eq_true] at h
 have a := yqy h.1
 have b := yqy h.2
 unfold ptL
 rw [List.length_append, List.length_cons]
 omega
def GoodR (s : ByteArray) (r : List Pt × Bool) : Prop := (r.2 = true ∧ isLift r.1 = true ∧ txtB r.1 = s) ∨ r = ([], false)
theorem ylc1 (s : ByteArray) (f : List Pt) (h : f.length ≤ 1048576) : ∃ r, ygd s f = some r ∧ GoodR s r := by
 obtain ⟨e1, _⟩ := ydc f (by omega)
 unfold ygd yio
 rw [e1, Option.bind_some]
 cases hf : isLift f
 ·exact ⟨_, rfl, .inr rfl⟩
 obtain ⟨h1, h2, h3⟩ := ysf hf
 simp only [Bool.not_true, Bool.false_eq_true, if_false, Option.bind_some, yqk h1 h2, ypa1]
 by_cases hq : txtB f = s
 ·simp only [hq, decide_true, Bool.not_true, Bool.false_eq_true, if_false]
  exact ⟨_, rfl, .inl ⟨rfl, hf, hq⟩⟩
 simp only [hq, decide_false, Bool.not_false, if_true]
 exact ⟨_, rfl, .inr rfl⟩
theorem ymc1 {f : List Pt} (hf : isLift f = true) : ygd (txtB f) f = some (f, true) := by
 obtain ⟨h1, h2, h3⟩ := ysf hf
 obtain ⟨e1, _⟩ := ydc f (by omega)
 unfold ygd yio
 rw [e1, Option.bind_some, hf]
 simp only [Bool.not_true, Bool.false_eq_true, if_false, Option.bind_some, yqk h1 h2, beq_self_eq_true]
theorem yts (s : ByteArray) (h : s.size ≤ 1048576) : ∃ r, yoe s = some r ∧ GoodR s r := by
 have hl : s.data.toList.length ≤ 1048576 := by rwa [Array.length_toList]
 have e := ywf s.data.toList 59 hl
 rw [yyk1, show ((59 : UInt8).toNat : Int) = 59 from rfl] at e
 have hz := yjc1 s.data.toList 59
 have hn := yjq1 s.data.toList 59
 generalize spl s.data.toList 59 = v at e hz hn
 unfold yoe
 rw [e, Option.bind_some]
 by_cases h1 : (v.length : Int) > 13
 ·rw [if_pos (decide_eq_true h1)]; exact ⟨_, rfl, .inr rfl⟩
 rw [if_neg (by simpa using h1)]
 have hw : w64 ((v.length : Int) - 1) = ((v.length - 1 : Nat) : Int) := by rw [yka (by omega) (by omega)]; omega
 rw [hw, yda ⟨by omega, by omega⟩]
 obtain ⟨y, hy, hR⟩ := ygr (body := yhc v) (fun x => ∃ i : Nat, x.2 = i ∧ i ≤ v.length - 1 ∧ x.1.length = i) (fun x => v.length - x.2.toNat) (fun y => match y with | .inl r => r = ([], false) | .inr f => f.length ≤ 13) (fun x hx => by
  obtain ⟨x1, x2⟩ := x; obtain ⟨i, hi, hil, hx1⟩ := hx; simp only at hi hx1
  subst hi; unfold yhc; simp only [hw, Int.toNat_natCast]; have htl : (v.take (v.length - 1)).length = v.length - 1 := by rw [List.length_take]; omega
  by_cases hlt : i < v.length - 1
  ·rw [if_pos (by rw [htl]; simpa using hlt), yhs (by rw [htl]; exact hlt), Option.bind_some]
   have hp : ∃ p, p ∈ v ∧ (v.take (v.length - 1))[i]'(by rw [htl]; exact hlt) = p := ⟨_, List.mem_of_mem_take (List.getElem_mem _), rfl⟩
   obtain ⟨p, hpv, hpe⟩ := hp; rw [hpe]; have hps := hz p hpv; have hpl : p.data.toList.length ≤ 1048576 := Nat.le_trans (by rw [Array.length_toList]; exact Nat.le_refl _) (Nat.le_trans hps hl)
   have e2 := ywf p.data.toList 32 hpl; rw [yyk1, show ((32 : UInt8).toNat : Int) = 32 from rfl] at e2; have hz2 := yjc1 p.data.toList 32; generalize spl p.data.toList 32 = v2 at e2 hz2
   rw [e2, Option.bind_some]; by_cases h2 : v2.length = 2
   ·match v2, h2, hz2 with
    | [a, b], _, hz2 =>
     obtain ⟨ra, ha⟩ := ylo a (Nat.le_trans (hz2 a (by simp)) hpl)
     obtain ⟨rb, hb⟩ := ylo b (Nat.le_trans (hz2 b (by simp)) hpl)
     have i0 : idxO [a, b] 0 = some a := rfl
     have i1 : idxO [a, b] 1 = some b := rfl
     have g : ((([a, b] : List ByteArray).length : Int) != 2) = false := rfl
     simp only [g, Bool.false_eq_true, if_false, i0, i1, Option.bind_some, ha, hb]; split
     ·exact .inr ⟨_, rfl, rfl⟩
     rw [yda (by rw [hx1]; simp; omega)]
     refine .inl ⟨_, rfl, ⟨i + 1, ywe (show i < 9223372036854775807 by omega), by omega, by simp [hx1]⟩, ?_⟩
     simp only [ywe (show i < 9223372036854775807 by omega)]; omega
   have : ((v2.length : Int) != 2) = true := by simp; omega
   rw [if_pos this]; exact .inr ⟨_, rfl, rfl⟩
  rw [if_neg (by rw [htl]; simp; omega)]
  exact .inr ⟨_, rfl, show x1.length ≤ 13 by omega⟩) ([], 0) ⟨0, rfl, by omega, rfl⟩
 rw [hy, Option.bind_some]
 cases y with
 | inl r => exact ⟨r, rfl, .inr hR⟩
 | inr f => exact ylc1 s f (Nat.le_trans hR (by omega))
theorem yus {f : List Pt} (hf : isLift f = true) (hs : (txtL f).length ≤ 1048576) : yoe (txtB f) = some (f, true) := by
 obtain ⟨h1, h2, h3⟩ := ysf hf
 have e := ywf (txtL f) 59 hs
 rw [yen1, ← yaw, show ((59 : UInt8).toNat : Int) = 59 from rfl] at e
 have hlen : (f.map (fun q => mkB (ptL q)) ++ [mkB []]).length = f.length + 1 := by simp
 have hw : w64 (((f.length + 1 : Nat) : Int) - 1) = (f.length : Int) := by rw [yka (by omega) (by omega)]; omega
 have ht : (f.map (fun q => mkB (ptL q)) ++ [mkB []]).take f.length = f.map (fun q => mkB (ptL q)) := by
  rw [List.take_append_of_le_length (by simp), List.take_of_length_le (by simp)]
 have hx := yae (body := yhc (f.map (fun q => mkB (ptL q)) ++ [mkB []])) f.length (fun i => (f.take i, (i : Int))) (.inr f) (fun i hi => by
  unfold yhc; simp only [hlen, hw, Int.toNat_natCast, ht]; have hr := List.all_eq_true.1 h1 _ (List.getElem_mem hi)
  have hp := ymh1 hr; have hr2 := hr; simp only [ratP, Bool.and_eq_true] at hr2; rw [if_pos (by simpa using hi), yhs (by simpa using hi), Option.bind_some, List.getElem_map]; have e2 := ywf (ptL f[i]) 32 (by omega)
  rw [yoq1, show ((32 : UInt8).toNat : Int) = 32 from rfl] at e2; rw [e2, Option.bind_some]; have i0 : idxO [ratB f[i].1, ratB f[i].2] 0 = some (ratB f[i].1) := rfl
  have i1 : idxO [ratB f[i].1, ratB f[i].2] 1 = some (ratB f[i].2) := rfl
  have g : ((([ratB f[i].1, ratB f[i].2] : List ByteArray).length : Int) != 2) = false := rfl
  simp only [g, Bool.false_eq_true, if_false, i0, i1, Option.bind_some, ylp hr2.1, ylp hr2.2, Bool.not_true, Bool.or_self]; rw [yda (by rw [List.length_take]; simp; omega), ywe (show i < 9223372036854775807 by omega), List.take_succ_eq_append_getElem hi]) (by
  unfold yhc; simp only [hlen, hw, Int.toNat_natCast, ht]; rw [if_neg (by simp), List.take_length])
 have hx' : loopO (yhc (f.map (fun q => mkB (ptL q)) ++ [mkB []])) ([], 0) = some (.inr f) := hx
 unfold yoe
 rw [e, Option.bind_some, hx', hlen, if_neg (by simp; omega), hw, yda ⟨by omega, by omega⟩, Option.bind_some]
 exact ymc1 hf
theorem yir (s : ByteArray) (h : s.size ≤ 1048576) : ∃ r, yte s = some r ∧ r.1.length ≤ 1048576 ∧ (r.2 = true → txtB r.1 = s) := by
 obtain ⟨y, hy, hR⟩ := ygr (body := yzb) (fun x => txtB x.2 ++ x.1 = s ∧ x.2.length + x.1.size ≤ 1048576) (fun x => x.1.size) (fun y => match y with | .inl r => r = ([], false) | .inr f => f.length ≤ 1048576 ∧ txtB f = s) (fun x hx => by
  obtain ⟨t, f⟩ := x; obtain ⟨hs, hn⟩ := hx; simp only at hs hn
  unfold yzb; simp only [ypa1]; by_cases h0 : t = ByteArray.empty
  ·simp only [h0, decide_true, Bool.not_true, Bool.false_eq_true, if_false]
   refine .inr ⟨_, rfl, ?_⟩
   rw [h0, ByteArray.append_empty] at hs; exact ⟨by omega, hs⟩
  simp only [h0, decide_false, Bool.not_false, if_true]; have hc := ych t 59 (by omega)
  have cl := yoy 59 t.data.toList; have htl : t.data.toList.length = t.size := by rw [Array.length_toList]; rfl
  have hct : ∀ a b, cutR 59 t.data.toList = (a, b, true) → t.data.toList = a ++ 59 :: b := fun a b h => yny h
  generalize cutR 59 t.data.toList = c at hc cl hct
  rw [show (ByteArray.mk #[59]) = mkB [59] from rfl, hc]
  simp only [Option.bind_some]; have hc2 := ych (mkB c.1) 32 (by rw [ynb]; omega)
  have cl2 := yoy 32 c.1; have hct2 : ∀ a b, cutR 32 c.1 = (a, b, true) → c.1 = a ++ 32 :: b := fun a b h => yny h
  rw [yyv] at hc2; generalize cutR 32 c.1 = d at hc2 cl2 hct2
  rw [show (ByteArray.mk #[32]) = mkB [32] from rfl, hc2]
  simp only [Option.bind_some]; obtain ⟨ra, ha, ga⟩ := yjn (mkB d.1) (by rw [ynb]; omega)
  obtain ⟨rb, hb, gb⟩ := yjn (mkB d.2.1) (by rw [ynb]; omega)
  rw [ha, hb]; simp only [Option.bind_some]; split
  ·exact .inr ⟨_, rfl, rfl⟩
  rename_i hno; simp only [Bool.or_eq_true, Bool.not_eq_true', not_or, Bool.not_eq_false] at hno; obtain ⟨n1, n2, n3, n4⟩ := hno; have t1 := hct c.1 c.2.1 (by rw [← n1])
  have t2 := hct2 d.1 d.2.1 (by rw [← n2])
  have e1 := (ga n3).2
  have e2 := (gb n4).2
  have tl : t.size = c.1.length + 1 + c.2.1.length := by rw [← htl, t1]; simp; omega
  rw [yda (by simp; omega)]
  refine .inl ⟨_, rfl, ⟨?_, ?_⟩, ?_⟩
  ·show txtB (f ++ [(ra.1, rb.1)]) ++ mkB c.2.1 = s
   rw [← hs, yic1]; have : txtB [(ra.1, rb.1)] = mkB (c.1 ++ [59]) := by
    show ptB (ra.1, rb.1) ++ ByteArray.empty = _
    rw [ByteArray.append_empty]; unfold ptB; simp only
    rw [e1, e2, t2, show (d.1 ++ 32 :: d.2.1 : List UInt8) = (d.1 ++ [32]) ++ d.2.1 by simp, yvq, yvq, yvq]
    rfl
   rw [this, ByteArray.append_assoc, ← yvq, show (c.1 ++ [59]) ++ c.2.1 = t.data.toList by rw [t1]; simp, yyk1]
  ·show (f ++ [(ra.1, rb.1)]).length + (mkB c.2.1).size ≤ 1048576
   rw [List.length_append, ynb]; simp; omega
  show (mkB c.2.1).size < t.size
  rw [ynb]; omega) (s, []) ⟨by show ByteArray.empty ++ s = s; rw [ByteArray.empty_append], by simpa using h⟩
 unfold yte
 rw [hy, Option.bind_some]
 cases y with
 | inl r =>
  have hR' : r = ([], false) := hR
  subst hR'
  exact ⟨_, rfl, by simp, fun h => by cases h⟩
 | inr f => exact ⟨_, rfl, hR.1, fun _ => hR.2⟩
theorem yrd1 (f : List Pt) {i : Nat} (hi : i < f.length) : (txtB (f.drop i)).data.toList = ptL f[i] ++ 59 :: txtL (f.drop (i + 1)) := by
 rw [List.drop_eq_getElem_cons hi, yaw, yyv]
 rfl
theorem ytj1 (f : List Pt) : ∀ i, (txtL (f.drop i)).length ≤ (txtL f).length := by
 induction f with
 | nil => intro i; simp
 | cons q f ih =>
  intro i; cases i with
  | zero => exact Nat.le_refl _
  | succ i =>
   have := ih i
   have e : (txtL (q :: f)).length = (ptL q).length + (1 + (txtL f).length) := by
    show (ptL q ++ 59 :: txtL f).length = _
    rw [List.length_append, List.length_cons]; omega
   rw [List.drop_succ_cons, e]; omega
theorem yvs {f : List Pt} (hr : f.all ratP = true) (hl : f.length ≤ 12) (hs : (txtL f).length ≤ 1048576) : yte (txtB f) = some (f, true) := by
 have hx := yae (body := yzb) f.length (fun i => (txtB (f.drop i), f.take i)) (.inr f) (fun i hi => by
  have hq := List.all_eq_true.1 hr _ (List.getElem_mem hi)
  have hp := ymh1 hq; have hq2 := hq; simp only [ratP, Bool.and_eq_true] at hq2; have hd := ytj1 f i; have hsz : (txtB (f.drop i)).size = (txtL (f.drop i)).length := by rw [yaw, ynb]
  have hc := ych (txtB (f.drop i)) 59 (by omega)
  rw [yrd1 f hi, ymy _ ymq1] at hc; have hc2 := ych (mkB (ptL f[i])) 32 (by rw [ynb]; omega)
  rw [yyv, show cutR 32 (ptL f[i]) = (ratL f[i].1, ratL f[i].2, true) from ymy _ (ysa1 (by decide) (by decide) (by decide))] at hc2
  have hne : ¬ txtB (f.drop i) = ByteArray.empty := fun h => by
   have h2 := yrd1 f hi; rw [h] at h2; have := congrArg List.length h2
   simp at this
  unfold yzb; simp only [ypa1, hne, decide_false, Bool.not_false, if_true]; rw [show (ByteArray.mk #[59]) = mkB [59] from rfl, hc]
  simp only [Option.bind_some]; rw [show (ByteArray.mk #[32]) = mkB [32] from rfl, hc2]
  simp only [Option.bind_some, ← yss, ymo hq2.1, ymo hq2.2, Bool.not_true, Bool.or_self, Bool.false_eq_true, if_false]; rw [yda (by rw [List.length_take]; simp; omega), ← yaw, List.take_succ_eq_append_getElem hi]) (by
  unfold yzb; rw [List.drop_length]; simp only [ypa1, show txtB [] = ByteArray.empty from rfl, decide_true, Bool.not_true, Bool.false_eq_true, if_false, List.take_length])
 have hx' : loopO yzb (txtB f, []) = some (.inr f) := hx
 unfold yte
 rw [hx']
 rfl
theorem yws (s : ByteArray) (h : s.size ≤ 1048576) : ∃ r, ykd s = some r ∧ GoodR s r := by
 obtain ⟨⟨f, b⟩, e, hl, hg⟩ := yir s h
 simp only at hl hg
 obtain ⟨_, e1⟩ := ydc f (by omega)
 unfold ykd
 rw [e, Option.bind_some]
 cases b
 ·exact ⟨_, rfl, .inr rfl⟩
 simp only [Bool.not_true, Bool.false_eq_true, if_false, e1, Option.bind_some]
 cases hf : isLift f
 ·exact ⟨_, rfl, .inr rfl⟩
 exact ⟨_, rfl, .inl ⟨rfl, hf, hg rfl⟩⟩
theorem ycm {f : List Pt} (hf : isLift f = true) (hs : (txtL f).length ≤ 1048576) : ykd (txtB f) = some (f, true) := by
 obtain ⟨h1, h2, h3⟩ := ysf hf
 obtain ⟨_, e1⟩ := ydc f (by omega)
 unfold ykd
 rw [yvs h1 h2 hs]
 simp only [Option.bind_some, Bool.not_true, Bool.false_eq_true, if_false, e1, hf]
theorem yry (s : ByteArray) (h : s.size ≤ 1048576) : ∃ r : List Pt × Bool, yoe s = some r ∧ ykd s = some r ∧ r.1.length ≤ 12 := by
 obtain ⟨r1, e1, g1⟩ := yts s h
 obtain ⟨r2, e2, g2⟩ := yws s h
 have key : ∀ f, isLift f = true → txtB f = s → (txtL f).length ≤ 1048576 := fun f _ hs => by rw [← ynb, ← yaw, hs]; exact h
 rcases g1 with ⟨a, b, c⟩ | g1
 ·have := ycm b (key _ b c)
  rw [c] at this; refine ⟨r1, e1, ?_, (ysf b).2.1⟩
  rw [this, ← a]
 rcases g2 with ⟨a, b, c⟩ | g2
 ·have := yus b (key _ b c)
  rw [c] at this; refine ⟨r2, ?_, e2, (ysf b).2.1⟩
  rw [this, ← a]
 exact ⟨r1, e1, by rw [e2, g2, g1], by rw [g1]; simp⟩
end Go.PV

/-
 Plain laws: FnLifts: what is drawn.
 Conditions: none.
-/
set_option linter.all false
namespace Go.PV
theorem yfn1 {B : Nat} (hB : B ≤ 100000) {c : Cur} (hc : Ck B c) : Tot (ynd c) fun r => (r.1.all ratP = true ∧ r.1.length ≤ 12) ∧ Ck (B + 320) r.2 := by
 unfold ynd
 refine (yph hc (by omega) _ (by simp)).bind fun v1 ⟨m1, h1⟩ => ?_
 simp only [List.mem_cons, List.not_mem_nil, or_false] at m1
 refine (yex (by omega) h1 (by omega) (by omega)).bind fun v2 ⟨l2, h2⟩ => ?_
 refine (ybh1 h2 (by omega) _).bind fun v3 h3 => ?_
 refine Tot.bind (P := fun w => w = false → isLift v2.1 = true) ?_ fun w hw => ?_
 ·refine Tot.ite (fun _ => Tot.ret (fun h => by cases h)) (fun _ => ?_)
  rw [(ydc v2.1 (by omega)).1, Option.bind_some]; exact Tot.ret fun h => by simpa using h
 refine Tot.ite (fun _ => ?_) (fun hw0 => Tot.ret ⟨⟨(ysf (hw hw0)).1, (ysf (hw hw0)).2.1⟩, Ck.mono (c := v3.2) h3 (by omega)⟩)
 refine (yph h3 (by omega) _ (by simp)).bind fun v7 ⟨m7, h7⟩ => ?_
 simp only [List.mem_cons, List.not_mem_nil, or_false] at m7
 refine (yip (by omega) h7 (by omega) (by omega)).bind fun v8 ⟨h8, hc8⟩ => ?_
 unfold yjb yfb
 simp only [Option.bind_some]
 obtain ⟨g1, g2, g3, g4, g5⟩ := h8
 have e : (w64 (v8.1.1 + (w64 (1 * v8.1.2)))) = v8.1.1 + v8.1.2 := by rw [yka (n := 1 * v8.1.2) (by omega) (by omega), yka (by omega) (by omega)]; omega
 rw [e]
 have hr : isRat (v8.1.1 + v8.1.2, v8.1.2) = true := by
  obtain ⟨r1, r2, r3, r4, r5⟩ := isRat_iff.1 g1; refine isRat_iff.2 ⟨r1, r2, by show _ ≤ v8.1.1 + v8.1.2; omega, by show v8.1.1 + v8.1.2 ≤ _; omega, ?_⟩
  show Int.gcd (v8.1.1 + v8.1.2) v8.1.2 = 1
  rw [show v8.1.1 + v8.1.2 = v8.1.1 + 1 * v8.1.2 by omega, Int.gcd_add_mul_right_left]; exact r5
 have h0 : isRat (0, 1) = true := yxe (by omega) (by omega)
 have h1' : isRat (1, 1) = true := yxe (by omega) (by omega)
 exact Tot.ret ⟨⟨by simp [ratP, g1, hr, h0, h1'], by simp⟩, Ck.mono (c := v8.2) hc8 (by omega)⟩
theorem ybw : ∀ {l : List Pt}, l.all ratP = true → (txtB l).size ≤ 46 * l.length
 | [], _ => by show (0 : Nat) ≤ _; omega
 | q :: l, h => by
  simp only [List.all_cons, Bool.and_eq_true] at h; have a := ymh1 h.1; have b := ybw h.2; show (ptB q ++ txtB l).size ≤ _
  rw [ByteArray.size_append, List.length_cons, ynq1, ynb, List.length_append]; simp only [List.length_cons, List.length_nil]; omega
theorem ygn1 (s : ByteArray) (i j : Int) : (strCut s i j).size ≤ s.size := by
 unfold strCut
 rw [ByteArray.size_extract]
 omega
theorem yuj1 {B : Nat} (hB : B ≤ 100000) {c : Cur} (hc : Ck B c) {t w : ByteArray} (ht : t.size ≤ 100000) (hw1 : 1 ≤ w.size) (hw2 : w.size ≤ 1000) : Tot (yuf c t w) fun r => r.1.size ≤ 200010 := by
 unfold yuf
 refine (ynk hc (by omega) _).bind fun v2 ⟨⟨p1, p2⟩, h2⟩ => ?_
 have p3 := p2 (by omega)
 refine Tot.bind (P := fun y : List Int × Int × Int × ByteArray => y.2.2.2.size ≤ 200010) ?_ fun y hy => Tot.ret hy
 refine Tot.loop (fun x => Ck (B + 20 - 6 * x.2.2.2.2.toNat) (x.1, x.2.1, x.2.2.1) ∧ 0 ≤ x.2.2.2.2 ∧ x.2.2.2.2 ≤ 2 ∧ x.2.2.2.1.size ≤ 100000 + 1000 * (2 - x.2.2.2.2.toNat)) (fun x => x.2.2.2.2.toNat) (fun x ⟨xc, x0, x2, xs⟩ => ?_) (v2.2.1, v2.2.2.1, v2.2.2.2, t, w64 (1 + v2.1)) ⟨?_, ?_, ?_, ?_⟩
 ·refine Ck.mono (c := v2.2) h2 ?_
  show _ ≤ B + 20 - 6 * (w64 (1 + v2.1)).toNat
  rw [yka (by omega) (by omega)]; omega
 ·show 0 ≤ w64 (1 + v2.1)
  rw [yka (by omega) (by omega)]; omega
 ·show w64 (1 + v2.1) ≤ 2
  rw [yka (by omega) (by omega)]; omega
 ·show t.size ≤ _
  omega
 obtain ⟨c1, c2, c3, s, k⟩ := x
 simp only at xc x0 x2 xs ⊢
 unfold yoi
 refine Tot.ite (fun hk => ?_) (fun hk => Tot.inr (by show s.size ≤ _; omega))
 simp only [Bool.and_eq_true, decide_eq_true_eq] at hk
 obtain ⟨k1, k2⟩ := hk
 have hkn : k.toNat = (k - 1).toNat + 1 := by omega
 have hw : w64 (k - 1) = k - 1 := yka (by omega) (by omega)
 refine (ynk xc (by omega) _).bind fun v6 ⟨⟨a1, a2⟩, h6⟩ => ?_
 have k3 : 0 < (s.size : Int) := k2
 have a3 : v6.1 < (s.size : Int) := a2 (by show (1 : Int) ≤ (s.size : Int); omega)
 clear a2
 refine (ynk h6 (by omega) _).bind fun v7 ⟨⟨b1, b2⟩, h7⟩ => ?_
 have b3 := b2 (by omega)
 refine Tot.guard ⟨b1, b3⟩ ?_
 refine (ynk h7 (by omega) _).bind fun v9 ⟨_, h9⟩ => ?_
 have hb : (byteB (strAt w v7.1)).size = 1 := rfl
 have z1 := ygn1 s 0 v6.1
 have z2 := ygn1 s v6.1 (s.size : Int)
 have hw1 : w64 (v6.1 + 1) = v6.1 + 1 := yka (by omega) (by omega)
 have z3 := ygn1 s (v6.1 + 1) (s.size : Int)
 have z4 : (strCut s 0 v6.1).size = v6.1.toNat := by unfold strCut; rw [ByteArray.size_extract]; simp; omega
 have z5 : (strCut s v6.1 (s.size : Int)).size = s.size - v6.1.toNat := by unfold strCut; rw [ByteArray.size_extract]; simp
 simp only [hw, hw1]
 have fin : ∀ (s2 : ByteArray), s2.size ≤ s.size + 1 → Tot (some (Sum.inl (v9.2.1, v9.2.2.1, v9.2.2.2, s2, k - 1)) : Option ((List Int × Int × Int × ByteArray × Int) ⊕ (List Int × Int × Int × ByteArray)))
   (Lp (fun x' => (Ck (B + 20 - 6 * x'.2.2.2.2.toNat) (x'.1, x'.2.1, x'.2.2.1) ∧ 0 ≤ x'.2.2.2.2 ∧ x'.2.2.2.2 ≤ 2 ∧ x'.2.2.2.1.size ≤ 100000 + 1000 * (2 - x'.2.2.2.2.toNat)) ∧ x'.2.2.2.2.toNat < k.toNat) fun y => y.2.2.2.size ≤ 200010) := fun s2 hs2 =>
  Tot.inl ⟨⟨Ck.mono (c := v9.2) h9 (by show _ ≤ B + 20 - 6 * (k - 1).toNat; omega), by show 0 ≤ k - 1; omega, by show k - 1 ≤ 2; omega, by show s2.size ≤ 100000 + 1000 * (2 - (k - 1).toNat); omega⟩, by show (k - 1).toNat < _; omega⟩
 refine Tot.ite (fun _ => ?_) (fun _ => Tot.ite (fun _ => ?_) (fun _ => ?_))
 ·refine Tot.guard ⟨a1, by omega⟩ (Tot.guard (by omega) (Tot.guard (by rw [ByteArray.size_append]; omega) (fin _ ?_)))
  rw [ByteArray.size_append, ByteArray.size_append]; omega
 ·refine Tot.guard ⟨a1, by omega⟩ (Tot.guard (by omega) (Tot.guard ⟨by omega, by omega⟩ (Tot.guard (by rw [ByteArray.size_append]; omega) (fin _ ?_))))
  have z6 : (strCut s (v6.1 + 1) (s.size : Int)).size = s.size - (v6.1 + 1).toNat := by unfold strCut; rw [ByteArray.size_extract]; simp
  rw [ByteArray.size_append, ByteArray.size_append]; omega
 refine Tot.guard ⟨a1, by omega⟩ (Tot.guard ⟨by omega, by omega⟩ (Tot.guard (by omega) (fin _ ?_)))
 have z6 : (strCut s (v6.1 + 1) (s.size : Int)).size = s.size - (v6.1 + 1).toNat := by unfold strCut; rw [ByteArray.size_extract]; simp
 rw [ByteArray.size_append]; omega
theorem ycw {l : List Int} (h : Bytes l) : Tot (ydf l) fun r => r.size ≤ 1048576 := by
 unfold ydf
 refine (yfn1 (by omega) (ck0 h)).bind fun v1 ⟨⟨a1, a2⟩, h1⟩ => ?_
 rw [yqk a1 a2, Option.bind_some]
 have hs := ybw a1
 refine (ybh1 h1 (by omega) _).bind fun v3 h3 => ?_
 refine Tot.ite (fun _ => ?_) (fun _ => Tot.ret (by omega))
 exact (yuj1 (by omega) h3 (by omega) (by decide) (by decide)).bind fun v5 h5 => Tot.ret (by omega)
theorem ysu {l : List Int} (h : Bytes l) : Tot (yqe l) fun r => r.1.length ≤ 13 := by
 unfold yqe yck
 refine Tot.bind (P := fun r => r.1.length ≤ 13) ?_ fun r hr => Tot.ret hr
 refine (ych1 (by omega) (ck0 h)).bind fun v1 ⟨l1, h1⟩ => ?_
 exact (yid1 (by omega) h1).bind fun v2 h2 => Tot.ret l1
theorem ydw {l : List Int} (h : Bytes l) : Tot (yef l) fun _ => True := by
 unfold yef
 exact (yid1 (by omega) (ck0 h)).bind fun v1 _ => Tot.ret trivial
end Go.PV

/-
 Plain laws: FnExactReverseLift.
 Conditions: none.
-/
set_option linter.all false
namespace Go.PV
def revL (f : List Pt) : List Pt := f.reverse.map oppP
theorem yta1 (f : List Pt) (hl : f.length ≤ 1000000) : loopO (ybd f) ([], w64 ((f.length : Int) - 1)) = some (revL f) := by
 have hx := yae (body := ybd f) f.length (fun i => ((revL f).take i, (f.length : Int) - 1 - i)) (revL f) (fun i hi => by
  have h1 : ((f.length : Int) - 1 - i) = ((f.length - 1 - i : Nat) : Int) := by omega
  have hlen : (revL f).length = f.length := by unfold revL; simp
  unfold ybd; rw [if_pos (by simp; omega), h1]
  simp only
  rw [yhs (show f.length - 1 - i < f.length by omega)]; simp only [Option.bind_some, yik]; rw [yda (by rw [List.length_take]; simp; omega), List.take_succ_eq_append_getElem (by omega)]
  have e1 : (revL f)[i]'(by omega) = oppP (f[f.length - 1 - i]'(by omega)) := by unfold revL; simp
  have e2 : w64 (((f.length - 1 - i : Nat) : Int) - 1) = (f.length : Int) - 1 - ((i + 1 : Nat) : Int) := by rw [yka (by omega) (by omega)]; omega
  rw [e1, e2]; rfl) (by
  unfold ybd; rw [if_neg (by simp; omega)]
  rw [List.take_of_length_le (by unfold revL; simp)])
 have e0 : w64 ((f.length : Int) - 1) = (f.length : Int) - 1 - ((0 : Nat) : Int) := by rw [yka (by omega) (by omega)]; omega
 rw [e0]
 exact hx
noncomputable def revR (f : List Pt) : List Pt × Bool := if isLift f = true then (if isLift (revL f) = true then (revL f, true) else ([], false)) else ([], false)
theorem ymp (f : List Pt) (hl : f.length ≤ 1048576) : yah f = some (revR f) ∧ ycf f = some (revR f) ∧ (revR f).1.length ≤ 1048576 := by
 obtain ⟨e1, e2⟩ := ydc f (by omega)
 have hlen : (revL f).length = f.length := by unfold revL; simp
 obtain ⟨e3, e4⟩ := ydc (revL f) (by omega)
 unfold yah ycf revR
 rw [e1, e2]
 cases h : isLift f
 ·exact ⟨rfl, rfl, by simp⟩
 have h12 := (ysf h).2.1
 simp only [Option.bind_some, Bool.not_true, Bool.false_eq_true, if_false, if_true, yta1 f (by omega), yhg, yio, e3]
 rw [yda (by omega), show f.reverse.map oppP = revL f from rfl, e4]
 cases isLift (revL f)
 ·exact ⟨rfl, rfl, by simp⟩
 exact ⟨rfl, rfl, by simpa [hlen] using hl⟩
end Go.PV

/-
 Plain law: the product of a graph and a vector.
 Conditions: none.
-/
set_option linter.all false
namespace Go.PV
end Go.PV

/-
 Plain law: more steps give bounds that are no worse.
 Conditions: none.
-/
set_option linter.all false
namespace Go.PV
section
variable {n : Nat} {G : Nat → Nat → Int}
def lbd (G : Nat → Nat → Int) (n : Nat) (p q : Int) (v : Nat → Int) : Prop := ∀ i, i < n → p * v i ≤ q * dotN (G i) v n
def ubd (G : Nat → Nat → Int) (n : Nat) (p q : Int) (v : Nat → Int) : Prop := ∀ i, i < n → q * dotN (G i) v n ≤ p * v i
theorem ybl1 {a b c : Int × Int} (ha : 0 < a.2) (hb : 0 < b.2) (hc : 0 < c.2) (h1 : less a b = false) (h2 : less b c = false) : less a c = false := by
 rw [yin ha hb] at h1
 rw [yin hb hc] at h2
 rw [yin ha hc]
 exact Rat.le_trans h2 h1
theorem yua1 {a : Int × Int} (h : isRat a = true) : 0 < a.2 := by have := (isRat_iff.1 h).1; omega
theorem ypq1 {r : Nat → Int × Int} : ∀ k, (∀ i, i < k → isRat (r i) = true) → isRat (r 0) = true → ∀ i, i < k → less (r i) (mnN r k) = false ∧ less (mxN r k) (r i) = false
 | 0, _, _, i, hi => by omega
 | k + 1, h, h0, i, hi => by
  have hk := yec1 h0 (fun i hi => h i hi) k (by omega)
  have hk' := yec1 h0 (fun i hi => h i hi) (k + 1) (by omega)
  have hm : less (mnN r k) (mnN r (k + 1)) = false ∧ less (r k) (mnN r (k + 1)) = false := by
   rw [yey]; unfold minStep; split
   ·rename_i hl; exact ⟨ydc1 hl, ycq _⟩
   rename_i hl; exact ⟨ycq _, by simpa using hl⟩
  have hx : less (mxN r (k + 1)) (mxN r k) = false ∧ less (mxN r (k + 1)) (r k) = false := by
   rw [yfy]; unfold maxStep; split
   ·rename_i hl; exact ⟨ydc1 hl, ycq _⟩
   rename_i hl; exact ⟨ycq _, by simpa using hl⟩
  by_cases hik : i = k
  ·subst hik; exact ⟨hm.2, hx.2⟩
  have ih := ypq1 k (fun i hi => h i (by omega)) h0 i (by omega)
  have hi' := yua1 (h i hi)
  exact ⟨ybl1 hi' (yua1 hk.1) (yua1 hk'.1) ih.1 hm.1, ybl1 (yua1 hk'.2) (yua1 hk.2) hi' hx.1 ih.2⟩
section
variable {v : Nat → Int}
end
end
end Go.PV

/-
 Plain law: growth of drawn graphs.
 Conditions: none.
-/
set_option linter.all false
namespace Go.PV
section
variable {n : Nat} {G : Nat → Nat → Int} {v : Nat → Int}
end
end Go.PV

/-
 Plain laws: FnLiftOrbits.
 Conditions: none.
-/
set_option linter.all false
namespace Go.PV
theorem yrk (xs : List Pt) (hl : xs.length ≤ 4611686018427387904) : yem xs xs = some true := by
 have hx := yae (body := ysl xs xs) xs.length (fun i => (i : Int)) (.inr ()) (fun i hi => by
  simp only [ysl, show ((i : Int) < (xs.length : Int)) from by omega, decide_true, if_true, yhs hi, Option.bind_some, beq_self_eq_true, Bool.and_self, Bool.not_true, Bool.false_eq_true, if_false, ywe (show i < 9223372036854775807 by omega)]) (by simp [ysl])
 unfold yem
 rw [if_neg (by simp), show (0 : Int) = ((0 : Nat) : Int) from rfl, hx]
 rfl
section
variable {n : Nat} {p : Nat → Pt}
end
section
variable {n : Nat} {p : Nat → Pt} {y : Rt}
theorem yvj1 (h : LiftT n p) (hf : isLift (tab n p) = true) (hn : n ≤ 1048576) : yrd (tab n p) = some (mnN (dispF p) n, mxN (dispF p) n, true) ∧ yyb (tab n p) = some (mnN (dispF p) n, mxN (dispF p) n, true) := by
 obtain ⟨h1, h2⟩ := ydc (tab n p) (by rw [yzd]; omega)
 rw [hf] at h1 h2
 have e : yyb (tab n p) = some (mnN (dispF p) n, mxN (dispF p) n, true) := by unfold yyb; rw [h2]; simp [ydu h.cur]
 obtain ⟨r, e1, e2⟩ := yjj1 h.cur h1 h2
 exact ⟨by rw [e1, ← e2, e], e⟩
end
end Go.PV

/-
 Plain laws: FnLifts.
 Conditions: none.
-/
set_option linter.all false
namespace Go.PV
theorem ysd1 (f : List Pt) (x : Rt) (hl : f.length ≤ 1048576) {r : Rt × Bool} (e : ywj f x = some r) (hr : r.2 = true) : ∃ n p, f = tab n p ∧ LiftT n p ∧ isLift f = true ∧ near x = true ∧ liftQ n p x = some r.1 := by
 obtain ⟨h1, h2⟩ := ydc f (by omega)
 unfold ywj at e
 rw [h1] at e
 cases hf : isLift f
 ·rw [hf] at e
  obtain rfl : (((0 : Int), (0 : Int)), false) = r := Option.some.inj e
  cases hr
 obtain ⟨n, p, rfl, hL⟩ := yhn hf
 rw [hf] at e
 simp only [Option.bind_some, Bool.not_true, Bool.false_eq_true, if_false, ywi] at e
 cases hx : near x
 ·rw [hx] at e
  obtain rfl : (((0 : Int), (0 : Int)), false) = r := Option.some.inj e
  cases hr
 rw [hx] at e
 simp only [Bool.not_true, Bool.false_eq_true, if_false, Option.bind_some, yrj hL.cur hx] at e
 obtain rfl := Option.some.inj e
 refine ⟨n, p, rfl, hL, rfl, rfl, ?_⟩
 cases hq : liftQ n p x with
 | none => rw [hq] at hr; cases hr
 | some v => rfl
theorem ynh1 (f : List Pt) (y : Rt) (hl : f.length ≤ 1048576) {r : Rt × Bool} (e : ysc f y = some r) (hr : r.2 = true) : ∃ n p, f = tab n p ∧ LiftT n p ∧ isLift f = true ∧ near y = true ∧ ygb (tab n p) y (p 0) (turnK (p 0).2 y) = some (r.1, true) := by
 obtain ⟨h1, h2⟩ := ydc f (by omega)
 unfold ysc at e
 rw [h1] at e
 cases hf : isLift f
 ·rw [hf] at e
  obtain rfl : (((0 : Int), (0 : Int)), false) = r := Option.some.inj e
  cases hr
 obtain ⟨n, p, rfl, hL⟩ := yhn hf
 rw [hf] at e
 simp only [Option.bind_some, Bool.not_true, Bool.false_eq_true, if_false, ywi] at e
 cases hx : near y
 ·rw [hx] at e
  obtain rfl : (((0 : Int), (0 : Int)), false) = r := Option.some.inj e
  cases hr
 rw [hx] at e
 have hn := hL.cur.lo
 have h0 := hL.near0
 have px := yxi (yof hx).1
 have py := yxi (yof h0).1
 have bx := yps hx
 have bY := yps h0
 refine ⟨n, p, rfl, hL, rfl, rfl, ?_⟩
 rw [show (0 : Int) = ((0 : Nat) : Int) from rfl, yrb (show 0 < n by omega)] at e
 simp only [Bool.not_true, Bool.false_eq_true, if_false, Option.bind_some, px.spec, py.spec, ypk hx, ypk h0, yfc _ _ (ypc px.rat) (ypc py.rat), yka (n := flr y - flr (p 0).2) (by omega) (by omega), yka (n := flr y - flr (p 0).2 - 1) (by omega) (by omega)] at e
 have e4 : ∀ m, decide (cmp (part y) (part (p 0).2) < ((0 : Nat) : Int)) = m → less (part y) (part (p 0).2) = m := fun m h => by rw [← yhe1]; exact h
 have er : r = (r.1, true) := by rw [← hr]
 cases hm : decide (cmp (part y) (part (p 0).2) < ((0 : Nat) : Int))
 all_goals
  have e5 := e4 _ hm; rw [hm] at e; unfold turnK; rw [e5]; simp only [Bool.false_eq_true, if_false, if_true] at e ⊢; rw [e, ← er]
theorem yls1 {a b : Rt} (ha : isRat a = true) (hb : isRat b = true) (h : less b a = false) : ∃ v, yew a b = some v ∧ ¬ v > 0 := by
 obtain ⟨a1, a2, a3, a4, _⟩ := isRat_iff.1 ha
 obtain ⟨b1, b2, b3, b4, _⟩ := isRat_iff.1 hb
 have m1 := yqu (a := a.1) (b := b.2) (A := 1000000000) (B := 1000000000) a3 a4 (by omega) b2 (by omega) (by omega)
 have m2 := yqu (a := b.1) (b := a.2) (A := 1000000000) (B := 1000000000) b3 b4 (by omega) a2 (by omega) (by omega)
 have hl : ¬ b.1 * a.2 < a.1 * b.2 := by simpa [less] using h
 unfold yew
 rw [yka (n := a.1 * b.2) (by omega) (by omega), yka (n := b.1 * a.2) (by omega) (by omega), yka (by omega) (by omega)]
 by_cases h1 : a.1 * b.2 - b.1 * a.2 < 0
 ·rw [if_pos (decide_eq_true h1)]; exact ⟨_, rfl, by decide⟩
 rw [if_neg (by simpa using h1), if_neg (by simp; omega)]; exact ⟨_, rfl, by decide⟩
theorem yjr (xs : List Pt) (hl : xs.length ≤ 4611686018427387904) : yfi xs xs = some true := by
 have hx := yae (body := yud xs xs) xs.length (fun i => (i : Int)) (.inr ()) (fun i hi => by
  simp only [yud, show ((i : Int) < (xs.length : Int)) from by omega, decide_true, if_true, yhs hi, Option.bind_some, beq_self_eq_true, Bool.and_self, Bool.not_true, Bool.false_eq_true, if_false, ywe (show i < 9223372036854775807 by omega)]) (by simp [yud])
 have hx' : loopO (yud xs xs) 0 = some (.inr ()) := hx
 unfold yfi
 rw [hx']
 simp [ymh]
theorem ywj1 {q : Pt} (h : ratP q = true) : oppP (oppP q) = q := by
 simp only [ratP, Bool.and_eq_true] at h
 obtain ⟨a1, a2, a3, a4, _⟩ := isRat_iff.1 h.1
 obtain ⟨b1, b2, b3, b4, _⟩ := isRat_iff.1 h.2
 unfold oppP
 simp only
 rw [yka (n := q.1.2 - q.1.1) (by omega) (by omega), yka (n := q.2.2 - q.2.1) (by omega) (by omega), yka (by omega) (by omega), yka (by omega) (by omega)]
 rw [show q.1.2 - (q.1.2 - q.1.1) = q.1.1 by omega, show q.2.2 - (q.2.2 - q.2.1) = q.2.1 by omega]
theorem yxj1 {f : List Pt} (h : f.all ratP = true) : revL (revL f) = f := by
 unfold revL
 rw [← List.map_reverse, List.reverse_reverse, List.map_map]
 have : ∀ q ∈ f, (oppP ∘ oppP) q = q := fun q hq => ywj1 (List.all_eq_true.1 h q hq)
 rw [List.map_congr_left this]
 simp
section
variable {f : List Pt} {y : Rt}
theorem yhn1 (hl : f.length ≤ 13) : laws_FnLifts_k3 (f, y) (if isLift f = true then (txtB f, true) else (ByteArray.empty, false)) () = some true := by
 unfold laws_FnLifts_k3
 cases hf : isLift f
 ·rfl
 obtain ⟨h1, h2, h3⟩ := ysf hf
 have hs := ybw h1
 have ht : (txtL f).length ≤ 1048576 := by rw [← ynb, ← yaw]; omega
 obtain ⟨n, p, rfl, hL⟩ := yhn hf
 have hn : n ≤ 1048576 := by rw [yzd] at hl; omega
 obtain ⟨d1, d2⟩ := yvj1 hL hf hn
 have hrr : ∀ i, i < n → isRat (dispF p i) = true := fun i hi => (ydq hL.cur hi).2
 have hlo := hL.cur.lo
 have b := yec1 (hrr 0 (by omega)) hrr n (Nat.le_refl _)
 have ma := ypq1 n hrr (hrr 0 (by omega)) 0 (by omega)
 obtain ⟨v, q1, q2⟩ := yls1 b.1 b.2 (yhs1 b.1 (hrr 0 (by omega)) b.2 ma.1 ma.2)
 obtain ⟨u, hu, u1, u2⟩ := yum1 (tab n p) (by rw [yzd]; omega)
 obtain ⟨l1, l2⟩ := ydc (tab n p) (by rw [yzd]; omega)
 have p1 : ycg (tab n p) = some (u, true) := by
  unfold ycg; rw [l2, hf]; simp only [Option.bind_some, Bool.not_true, Bool.false_eq_true, if_false, u1, ykh]
 have p2 : yei (tab n p) = some (u, true) := by
  unfold yei; rw [l1, hf]; simp only [Option.bind_some, Bool.not_true, Bool.false_eq_true, if_false, u2, ylh]
 have p3 : yvf (tab n p) = some ((u.length : Int) == 0, true) := by
  unfold yvf; rw [p1]; simp only [Option.bind_some, Bool.true_and]
 have q2' : decide (v > 0) = false := decide_eq_false q2
 simp only [if_true, Bool.not_true, Bool.false_eq_true, if_false, ycm hf ht, d1, d2, Option.bind_some, yrk (tab n p) (by rw [yzd]; omega), beq_self_eq_true, Bool.and_self, q1, q2', p1, p2, p3, yjr u (by omega)]
theorem yin1 (hl : f.length ≤ 13) {r3 : Rt × Bool} (e : ysc f y = some r3) : laws_FnLifts_k2 (f, y) r3 (if isLift f = true then (txtB f, true) else (ByteArray.empty, false)) () = some true := by
 unfold laws_FnLifts_k2
 rw [yhn1 hl]
 by_cases h3 : r3.2 = true
 ·rw [if_pos h3]
  obtain ⟨r, a1, a2⟩ := yst f r3.1 (by omega)
  rw [a2, Option.bind_some]; simp only
  by_cases hr : r.2 = true
  ·obtain ⟨n, p, rfl, hL, hf, hy, hb⟩ := ynh1 f y (by omega) e h3
   obtain ⟨n', p', e', hL', _, hx, hq⟩ := ysd1 (tab n p) r3.1 (by omega) a1 hr
   have hlen : n = n' := by have := congrArg List.length e'; rwa [yzd, yzd] at this
   subst hlen; have hat : ysk (tab n p) r3.1 = ysk (tab n p') r3.1 := by rw [e']
   rw [yrj hL.cur hx, yrj hL'.cur hx, hq] at hat; have hq2 : liftQ n p r3.1 = some r.1 := by
    cases hz : liftQ n p r3.1 with
    | none => rw [hz] at hat; exact absurd (congrArg Prod.snd (Option.some.inj hat)) (by simp [unO])
    | some w =>
     rw [hz] at hat; simp only [unO, Option.some.injEq, Prod.mk.injEq, and_true] at hat; rw [hat]
   have hv := ymj1 hL hy hx hb hq2; simp [hv]
  have : r.2 = false := by simpa using hr
  simp [this]
 rw [if_neg h3]
theorem yjn1 (hl : f.length ≤ 13) {r3 : Rt × Bool} (e : ysc f y = some r3) : laws_FnLifts_k1 (f, y) r3 (if isLift f = true then (txtB f, true) else (ByteArray.empty, false)) (revR f) () = some true := by
 unfold laws_FnLifts_k1
 rw [yin1 hl e]
 by_cases h : (revR f).2 = true
 ·rw [if_pos h]
  have hf : isLift f = true := by
   unfold revR at h; split at h
   ·assumption
   cases h
  have hg : isLift (revL f) = true := by
   unfold revR at h; rw [if_pos hf] at h; split at h
   ·assumption
   cases h
  have e1 : revR f = (revL f, true) := by unfold revR; rw [if_pos hf, if_pos hg]
  have e2 : revR (revL f) = (f, true) := by unfold revR; rw [yxj1 (ysf hf).1, if_pos hg, if_pos hf]
  have hlen : (revL f).length = f.length := by unfold revL; simp
  obtain ⟨_, e3, _⟩ := ymp (revL f) (by omega)
  rw [e1]; simp only [e3, e2, Option.bind_some, Bool.not_true, Bool.false_eq_true, if_false, yrk f (by omega)]
 rw [if_neg h]
end
theorem yqq1 {y : Rt} (h : near y = true) : 1 ≤ y.2 ∧ y.2 ≤ 1000000000 ∧ -1000000000 ≤ y.1 ∧ y.1 ≤ 1000000000 := by
 obtain ⟨a, b, c, d, _⟩ := isRat_iff.1 (yof h).1
 exact ⟨a, b, c, d⟩
set_option maxHeartbeats 4000000 in
set_option maxRecDepth 100000 in
theorem laws_FnLifts_eq (a0 a1 : List Int) (h0 : Bytes a0) (h1 : Bytes a1) : laws_FnLifts a0 a1 = some true := by
 unfold laws_FnLifts
 by_cases hc0 : (decide ((w64 ((a0.length : Int) + (a1.length : Int))) > 1048576)) = true
 ·rw [if_pos hc0]
 rw [if_neg hc0]
 obtain ⟨⟨f, y⟩, d1, hl⟩ := ysu h0
 obtain ⟨s, d2, hs⟩ := ycw h1
 obtain ⟨z, d3, _⟩ := ydw h1
 simp only at hl
 obtain ⟨r3, b1, b2⟩ := ypw f y (by omega)
 obtain ⟨t1, t2⟩ := yoa1 f (by omega)
 obtain ⟨r7, c1, c2⟩ := yst f y (by omega)
 obtain ⟨v1, v2, v3⟩ := ymp f (by omega)
 obtain ⟨rp, p1, p2, p3⟩ := yry s hs
 have il : yqn f = some (isLift f) := by unfold yqn; rw [(ydc f (by omega)).2]; rfl
 rw [d1, Option.bind_some]
 simp (config := { maxSteps := 10000000 }) only [b1, b2, t1, t2, c1, c2, v1, v2, d2, p1, p2, d3, ynu, you, Option.bind_some, beq_self_eq_true, Bool.not_true, Bool.false_eq_true, if_false, Bool.and_self, yrk (revR f).1 (by omega), yrk rp.1 (by omega), il]
 have g1 : r3.2 = true → isLift f = true := fun h => by obtain ⟨_, _, _, _, hf, _⟩ := ynh1 f y (by omega) b1 h; exact hf
 have g2 : r7.2 = true → isLift f = true := fun h => by obtain ⟨_, _, _, _, hf, _⟩ := ysd1 f y (by omega) c1 h; exact hf
 have g3 : (revR f).2 = true → isLift f = true := fun h => by
  unfold revR at h; split at h
  ·assumption
  cases h
 have ht2 : (if isLift f = true then (txtB f, true) else (ByteArray.empty, false)).2 = isLift f := by cases isLift f <;> rfl
 have key : ∀ w : Option Bool, w = some false → (w.bind fun w20 => if w20 = true then some false else
   if ((reduceRat z).2 && ((decide ((reduceRat z).1.1 < 0)) || ((decide ((reduceRat z).1.1 ≥ (reduceRat z).1.2)) || ((reduceRat z).1.2 != z.2)))) = true then some false else
   if (r7.2 && ((decide (y.1 ≥ (w64 ((-900) * y.2)))) && (decide (y.1 ≤ (w64 (900 * y.2)))))) = true then
    (yui f ((w64 (y.1 + y.2)), y.2)).bind fun v48 =>
    (yqp ((w64 (y.1 + y.2)), y.2)).bind fun v49 =>
    if (v49 && (v48.2 && (!((v48.1.1 == (w64 (r7.1.1 + r7.1.2))) && (v48.1.2 == r7.1.2))))) = true then some false
    else laws_FnLifts_k1 (f, y) r3 (if isLift f = true then (txtB f, true) else (ByteArray.empty, false)) (revR f) ()
   else laws_FnLifts_k1 (f, y) r3 (if isLift f = true then (txtB f, true) else (ByteArray.empty, false)) (revR f) ()) = some true := fun w hw => by
  subst hw; rw [Option.bind_some, if_neg (by decide), yjn1 hl b1]; rw [if_neg (by
   unfold reduceRat; cases hz : near z
   ·simp
   have hp := yxi (yof hz).1
   have a := hp.lo; have b := hp.hi; have a' : 0 ≤ z.1 - floorDiv z.1 z.2 * z.2 := a
   have b' : z.1 - floorDiv z.1 z.2 * z.2 < z.2 := b
   simp only [if_true, Bool.true_and, Bool.or_eq_true, decide_eq_true_eq, bne_iff_ne, ne_eq, not_or]; exact ⟨by omega, by omega, by simp⟩)]
  split
  ·rename_i hc
   simp only [Bool.and_eq_true] at hc; obtain ⟨n, p, rfl, hL, hf, hy, hq⟩ := ysd1 f y (by omega) c1 hc.1
   have ny := yqq1 hy; have ew : w64 (y.1 + y.2) = y.1 + y.2 := yka (by omega) (by omega)
   rw [ew]; obtain ⟨r8, k1, k2⟩ := yst (tab n p) (y.1 + y.2, y.2) (by omega)
   rw [k2, Option.bind_some]; unfold yqp; rw [yif, Option.bind_some, Option.bind_some]; by_cases h8 : r8.2 = true
   ·obtain ⟨n', p', e', hL', _, hx, hq'⟩ := ysd1 (tab n p) (y.1 + y.2, y.2) (by omega) k1 h8
    have hlen : n = n' := by have := congrArg List.length e'; rwa [yzd, yzd] at this
    subst hlen; have hat : ysk (tab n p) (y.1 + y.2, y.2) = ysk (tab n p') (y.1 + y.2, y.2) := by rw [e']
    rw [yrj hL.cur hx, yrj hL'.cur hx, hq'] at hat; have hq2 : liftQ n p (y.1 + y.2, y.2) = some r8.1 := by
     cases hz : liftQ n p (y.1 + y.2, y.2) with
     | none => rw [hz] at hat; exact absurd (congrArg Prod.snd (Option.some.inj hat)) (by simp [unO])
     | some w =>
      rw [hz] at hat; simp only [unO, Option.some.injEq, Prod.mk.injEq, and_true] at hat; rw [hat]
    have hn := ylj1 hL hy hx hq hq2; have rv := yed1 hq; obtain ⟨w1, w2, w3, w4, _⟩ := isRat_iff.1 rv; have ew2 : w64 (r7.1.1 + r7.1.2) = r7.1.1 + r7.1.2 := yka (by omega) (by omega)
    rw [ew2, hn]; simp
   have : r8.2 = false := by simpa using h8
   simp [this]
  rfl
 refine key _ ?_
 rw [ht2]
 simp only [beq_self_eq_true, Bool.not_true, Bool.false_eq_true, if_false]
 cases h3 : r3.2
 ·cases h7 : r7.2
  ·cases h9 : (revR f).2
   ·rfl
   simp [g3 h9]
  cases h9 : (revR f).2
  ·simp [g2 h7]
  simp [g2 h7]
 have := g1 h3
 cases h7 : r7.2 <;> cases h9 : (revR f).2 <;> simp [this]
end Go.PV

/-
 What comes in as bytes is bytes.
 Conditions: none.
-/
set_option linter.all false
namespace Go.PV
theorem yoh1 {l : List Int} (h : (Ty.sl (.int .u8)).ok l) : Bytes l := by
 refine ⟨Nat.le_trans h.1 (by decide), fun b hb => ?_⟩
 have h2 : (Lit.int .u8 b).wf = true := h.2 b hb
 simp only [Lit.wf, Bool.and_eq_true, decide_eq_true_eq] at h2
 have e1 : IntKind.u8.min = 0 := by decide
 have e2 : IntKind.u8.max = 255 := by decide
 omega
end Go.PV
