/-
  Plain definitions of what the functions answer, and plain laws of them.
  Conditions: none.
-/
import Derived.Test.YtlajjggemadajaaPlRat
set_option linter.all false
namespace Go.PV
abbrev Pt := (Int × Int) × (Int × Int)
def zP : Pt := ((0, 0), (0, 0))
theorem slices_IndexFunc_Limpl_Point_impl_Point_eq (xs : List Pt) (f : Pt → Option Bool) (p : Pt → Bool) (hf : ∀ x, f x = some (p x)) (hl : xs.length ≤ 4611686018427387904) :
    slices_IndexFunc_Limpl_Point_impl_Point xs f = some (match xs.findIdx? p with | some i => (i : Int) | none => -1) := by
  have h := loop_first (xs := xs) (body := slices_IndexFunc_Limpl_Point_impl_Point_b1 xs f) p (fun i => (i : Int)) (fun i => .inl (i : Int)) (.inr ()) (fun i x hx => by
    have hi := getElem?_lt hx
    simp only [slices_IndexFunc_Limpl_Point_impl_Point_b1, idxO_nat, hx, hf, Option.bind_some, w64_nat (show i < 9223372036854775807 by omega), show ((i : Int) < (xs.length : Int)) from by omega, decide_true, if_true]
    cases p x <;> rfl) (by simp [slices_IndexFunc_Limpl_Point_impl_Point_b1])
  unfold slices_IndexFunc_Limpl_Point_impl_Point
  rw [show (0 : Int) = ((0 : Nat) : Int) from rfl, h]
  cases xs.findIdx? p <;> rfl
theorem slices_ContainsFunc_Limpl_Point_impl_Point_eq (xs : List Pt) (f : Pt → Option Bool) (p : Pt → Bool) (hf : ∀ x, f x = some (p x)) (hl : xs.length ≤ 4611686018427387904) : slices_ContainsFunc_Limpl_Point_impl_Point xs f = some (xs.any p) := by
  simp only [slices_ContainsFunc_Limpl_Point_impl_Point, slices_IndexFunc_Limpl_Point_impl_Point_eq xs f p hf hl, Option.bind_some]
  cases h : xs.findIdx? p with
  | none =>
    have hn := List.findIdx?_eq_none_iff.1 h
    have : xs.any p = false := by simpa using hn
    simp [this]
  | some m =>
    obtain ⟨hm, hp, _⟩ := List.findIdx?_eq_some_iff_getElem.1 h
    have : xs.any p = true := List.any_eq_true.2 ⟨xs[m], List.getElem_mem hm, hp⟩
    simp [this]

theorem laws_toPoint_eq (p : Pt) : laws_toPoint p = some p := rfl
theorem laws_toPointS_eq (xs : List Pt) (hl : xs.length ≤ 1099511627776) : laws_toPointS xs = some xs := by
  have h := loop_idx (body := laws_toPointS_b1 xs) xs.length (fun i => (xs.take i ++ (List.replicate xs.length zP).drop i, (i : Int))) xs (fun i hi => by
    have hlen : i < (xs.take i ++ (List.replicate xs.length zP).drop i).length := by simp; omega
    simp only [laws_toPointS_b1, idxO_lt hi, idxO_lt hlen, laws_toPoint_eq, Option.bind_some, w64_nat (show i < 9223372036854775807 by omega), show ((i : Int) < (xs.length : Int)) from by omega, decide_true, if_true, Int.toNat_natCast]
    rw [set_at _ _ _ _ (List.getElem?_eq_getElem hi) (by simpa using hi)]) (by simp [laws_toPointS_b1])
  unfold laws_toPointS
  rw [guardO_bind_pos (by omega)]
  simp only [List.take_zero, List.nil_append, List.drop_zero] at h
  rw [Int.toNat_natCast]
  have h' : loopO (laws_toPointS_b1 xs) (List.replicate xs.length ((0, 0), (0, 0)), 0) = some xs := h
  rw [h']
  rfl
theorem laws_eqPoint_self (p : Pt) : laws_eqPoint p p = some true := by simp [laws_eqPoint, laws_eqRat_self]
theorem laws_eqPointS_self (xs : List Pt) (hl : xs.length ≤ 4611686018427387904) : laws_eqPointS xs xs = some true := by
  have h := loop_idx (body := laws_eqPointS_b1 xs xs) xs.length (fun i => (i : Int)) (.inr ()) (fun i hi => by
    simp only [laws_eqPointS_b1, idxO_lt hi, laws_eqPoint_self, Option.bind_some, w64_nat (show i < 9223372036854775807 by omega), show ((i : Int) < (xs.length : Int)) from by omega, decide_true, if_true]
    simp) (by simp [laws_eqPointS_b1])
  unfold laws_eqPointS
  rw [show (0 : Int) = ((0 : Nat) : Int) from rfl, h]
  simp [laws_eqPointS_k1]
theorem laws_szPointS_eq (xs : List Pt) (m : Nat) (hm : m ≤ 4611686018427387904) (hl : xs.length ≤ 9223372036854775807) : laws_szPointS xs (m : Int) = some (if m < xs.length then -1 else (m : Int) - xs.length) := by
  unfold laws_szPointS
  rw [w64_id (by omega) (by omega)]
  by_cases h : m < xs.length
  · have : (m : Int) - xs.length < 0 := by omega
    simp [this, h]
  · have : ¬ (m : Int) - xs.length < 0 := by omega
    simp [this, h]

/-! ### cmp -/
theorem spec_raCmp_eq (a b : Int × Int) (ha : tame a) (hb : tame b) : spec_raCmp a b = some (cmp a b) := by
  obtain ⟨a1, a2, a3, a4⟩ := ha
  obtain ⟨b1, b2, b3, b4⟩ := hb
  have m1 := mul_le_9 a1 a2 b3 b4
  have m2 := mul_le_9 b1 b2 a3 a4
  unfold spec_raCmp spec_l1Sign cmp
  rw [w64_id (n := a.1 * b.2) (by omega) (by omega), w64_id (n := b.1 * a.2) (by omega) (by omega), w64_id (n := a.1 * b.2 - b.1 * a.2) (by omega) (by omega)]
  by_cases h1 : a.1 * b.2 < b.1 * a.2
  · have : ¬ (a.1 * b.2 - b.1 * a.2 > 0) := by omega
    have h3 : a.1 * b.2 - b.1 * a.2 < 0 := by omega
    simp [h1, h3]; omega
  · by_cases h2 : a.1 * b.2 > b.1 * a.2
    · have : a.1 * b.2 - b.1 * a.2 > 0 := by omega
      simp [h1, h2, this]
    · have h3 : ¬ (a.1 * b.2 - b.1 * a.2 > 0) := by omega
      have h4 : ¬ (a.1 * b.2 - b.1 * a.2 < 0) := by omega
      simp [h1, h2, h3, h4]
theorem cmp_ge (a b : Int × Int) : decide (cmp a b ≥ 0) = !less a b := by
  unfold cmp less
  by_cases h1 : a.1 * b.2 < b.1 * a.2
  · simp [h1]
  · by_cases h2 : a.1 * b.2 > b.1 * a.2 <;> simp [h1, h2]
theorem cmp_gt (a b : Int × Int) : decide (cmp a b > 0) = less b a := by
  unfold cmp less
  by_cases h1 : a.1 * b.2 < b.1 * a.2
  · have : ¬ b.1 * a.2 < a.1 * b.2 := by omega
    simp [h1, this]
  · by_cases h2 : a.1 * b.2 > b.1 * a.2
    · simp [h1, h2]
    · have : ¬ b.1 * a.2 < a.1 * b.2 := by omega
      simp [h1, h2]
theorem cmp_zero (a b : Int × Int) : (cmp a b == 0) = (a.1 * b.2 == b.1 * a.2) := by
  unfold cmp
  by_cases h1 : a.1 * b.2 < b.1 * a.2
  · have : ¬ a.1 * b.2 = b.1 * a.2 := by omega
    simp [h1, this]
  · by_cases h2 : a.1 * b.2 > b.1 * a.2
    · have : ¬ a.1 * b.2 = b.1 * a.2 := by omega
      simp [h1, h2, this]
    · have : a.1 * b.2 = b.1 * a.2 := by omega
      simp [this]

/-! ### coordinates -/
def isUnit (r : Int × Int) : Bool := isRat r && inB 0 r.2 r.1
def coord (r : Int × Int) : Bool := isUnit r && decide (r.2 ≤ 100)
theorem spec_raUnit_eq (r : Int × Int) : spec_raUnit r = some (isUnit r) := by
  unfold spec_raUnit isUnit
  simp only [spec_raGood_eq, Option.bind_some, spec_l1In_eq]
  cases isRat r <;> simp
theorem impl_isUnit_eq (r : Int × Int) : impl_isUnit r = some (isUnit r) := by
  simp [impl_isUnit, impl_isRat_eq, isUnit, inB]
theorem spec_imCoord_eq (r : Int × Int) : spec_imCoord r = some (coord r) := by simp [spec_imCoord, spec_raUnit_eq, coord]
theorem impl_isCoord_eq (r : Int × Int) : impl_isCoord r = some (coord r) := by simp [impl_isCoord, impl_isUnit_eq, coord]
theorem coord_rat {r : Int × Int} (h : coord r = true) : isRat r = true := by
  simp only [coord, isUnit, Bool.and_eq_true] at h
  exact h.1.1
/-- A point of a lift. -/
def goodPt (p : Pt) : Bool := coord p.1 && (isRat p.2 && (decide (p.2.2 ≤ 100) && inB (-5 * p.2.2) (5 * p.2.2) p.2.1))
theorem goodPt_tame {p : Pt} (h : goodPt p = true) : isRat p.1 = true ∧ isRat p.2 = true := by
  simp only [goodPt, Bool.and_eq_true] at h
  exact ⟨coord_rat h.1, h.2.1⟩
theorem impl_isLift_1_eq (p : Pt) : impl_isLift_1 p = some (!goodPt p) := by
  unfold impl_isLift_1 goodPt
  simp only [impl_isCoord_eq, impl_isRat_eq, impl_whole, Option.bind_some]
  cases h1 : coord p.1
  · simp
  · cases h : isRat p.2
    · simp
    · have ht := tame_of h
      obtain ⟨h2, h3, h4, h5, _⟩ := isRat_iff.1 h
      by_cases h6 : p.2.2 > 100
      · have : ¬ p.2.2 ≤ 100 := by omega
        simp [h6, this]
      · have h7 : p.2.2 ≤ 100 := by omega
        simp only [Bool.not_true, Bool.false_eq_true, if_false, h6, h7, decide_false, decide_true, impl_less_eq p.2 (-5, 1) ht ⟨by decide, by decide, by decide, by decide⟩, impl_less_eq (5, 1) p.2 ⟨by decide, by decide, by decide, by decide⟩ ht, Option.bind_some, less, Bool.true_and, inB]
        simp only [Int.mul_one]
        by_cases h8 : p.2.1 < -5 * p.2.2
        · have : ¬ (-5 * p.2.2 ≤ p.2.1) := by omega
          simp [h8, this]
        · have h9 : -5 * p.2.2 ≤ p.2.1 := by omega
          by_cases h10 : 5 * p.2.2 < p.2.1
          · have : ¬ (p.2.1 ≤ 5 * p.2.2) := by omega
            simp [h8, h9, h10, this]
          · have h11 : p.2.1 ≤ 5 * p.2.2 := by omega
            simp [h8, h9, h10, h11]
/-- From a point to the next. -/
def stepPt (a b : Pt) : Bool := less a.1 b.1 && !less b.2 a.2
def steps (xs : List Pt) (n : Nat) : Prop := ∀ i a b, 0 < i → i < n → xs[i - 1]? = some a → xs[i]? = some b → stepPt a b = true
theorem steps_succ {xs : List Pt} {i : Nat} {a b : Pt} (h : steps xs i) (ha : xs[i - 1]? = some a) (hb : xs[i]? = some b) (hs : stepPt a b = true) : steps xs (i + 1) := by
  intro j c d h1 h2 h3 h4
  by_cases hj : j = i
  · subst hj; rw [ha] at h3; rw [hb] at h4; cases h3; cases h4; exact hs
  · exact h j c d h1 (by omega) h3 h4
/-- The ends. -/
def ends (xs : List Pt) : Bool := match xs[0]?, xs[xs.length - 1]? with
  | some a, some b => (a.1 == (0, 1)) && ((b.1 == (1, 1)) && (b.2 == (a.2.1 + a.2.2, a.2.2)))
  | _, _ => false
open Classical in
/-- The maps of the circle's lifts. -/
noncomputable def isLift (xs : List Pt) : Bool := inB 2 12 xs.length && (decide (xs.all goodPt = true ∧ steps xs xs.length) && ends xs)
end Go.PV
