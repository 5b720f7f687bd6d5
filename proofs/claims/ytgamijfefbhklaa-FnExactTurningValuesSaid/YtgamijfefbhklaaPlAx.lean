/-
  Plain laws of what the functions answer.
  Conditions: none.
-/
import Derived.Test.YtgamijfefbhklaaPvCx
import Derived.Test.YtgamijfefbhklaaDf
set_option linter.all false
/-
  Plain laws: bounds, lists of numbers, vectors.
  Conditions: none.
-/
namespace Go.PV
def inB (a b n : Int) : Bool := decide (a ≤ n) && decide (n ≤ b)
theorem inB_iff {a b n : Int} : inB a b n = true ↔ a ≤ n ∧ n ≤ b := by simp [inB]
theorem spec_l1In_eq (v a b : Int) : spec_l1In v a b = some (inB a b v) := rfl
theorem impl_within_eq (v a b : Int) : impl_within v a b = some (inB a b v) := rfl
theorem spec_l1All_eq (xs : List Int) (a b : Int) (hl : xs.length ≤ 4611686018427387904) : spec_l1All xs a b = some (xs.all (inB a b)) := by
  have h := loop_any (xs := xs) (body := spec_l1All_b1 xs a b) (fun x => !inB a b x) (fun i => (i : Int)) (.inl false) (.inr ()) (fun i x hx => by
    have hi := getElem?_lt hx
    simp only [spec_l1All_b1, idxO_nat, hx, spec_l1In_eq, Option.bind_some, w64_nat (show i < 9223372036854775807 by omega), show ((i : Int) < (xs.length : Int)) from by omega, decide_true, if_true]
    cases inB a b x <;> rfl) (by simp [spec_l1All_b1])
  unfold spec_l1All
  rw [show (0 : Int) = ((0 : Nat) : Int) from rfl, h, List.any_eq_not_all_not]
  simp only [Bool.not_not]
  cases xs.all (inB a b) <;> rfl
def isVec (xs : List Int) : Bool := inB 1 8 xs.length && xs.all (inB 1 1000000)
theorem spec_gwVector_eq (xs : List Int) (hl : xs.length ≤ 4611686018427387904) : spec_gwVector xs = some (isVec xs) := by
  simp only [spec_gwVector, spec_l1In_eq, spec_l1All_eq xs _ _ hl, Option.bind_some, isVec]
  cases inB 1 8 xs.length <;> rfl
theorem spec_IsVector_eq (xs : List Int) (hl : xs.length ≤ 4611686018427387904) : spec_IsVector xs = some (isVec xs) := by
  simp only [spec_IsVector, spec_gwVector_eq xs hl, Option.bind_some]
theorem slices_IndexFunc_Lint_int_eq (xs : List Int) (f : Int → Option Bool) (p : Int → Bool) (hf : ∀ x, f x = some (p x)) (hl : xs.length ≤ 4611686018427387904) :
    slices_IndexFunc_Lint_int xs f = some (match xs.findIdx? p with | some i => (i : Int) | none => -1) := by
  have h := loop_first (xs := xs) (body := slices_IndexFunc_Lint_int_b1 xs f) p (fun i => (i : Int)) (fun i => .inl (i : Int)) (.inr ()) (fun i x hx => by
    have hi := getElem?_lt hx
    simp only [slices_IndexFunc_Lint_int_b1, idxO_nat, hx, hf, Option.bind_some, w64_nat (show i < 9223372036854775807 by omega), show ((i : Int) < (xs.length : Int)) from by omega, decide_true, if_true]
    cases p x <;> rfl) (by simp [slices_IndexFunc_Lint_int_b1])
  unfold slices_IndexFunc_Lint_int
  rw [show (0 : Int) = ((0 : Nat) : Int) from rfl, h]
  cases xs.findIdx? p <;> rfl
theorem slices_ContainsFunc_Lint_int_eq (xs : List Int) (f : Int → Option Bool) (p : Int → Bool) (hf : ∀ x, f x = some (p x)) (hl : xs.length ≤ 4611686018427387904) : slices_ContainsFunc_Lint_int xs f = some (xs.any p) := by
  simp only [slices_ContainsFunc_Lint_int, slices_IndexFunc_Lint_int_eq xs f p hf hl, Option.bind_some]
  cases h : xs.findIdx? p with
  | none =>
    have hn := List.findIdx?_eq_none_iff.1 h
    have : xs.any p = false := by simpa using hn
    simp [this]
  | some m =>
    obtain ⟨hm, hp, _⟩ := List.findIdx?_eq_some_iff_getElem.1 h
    have : xs.any p = true := by simp; exact ⟨xs[m], List.getElem_mem hm, hp⟩
    simp [this]
theorem impl_isVector_1_eq (x : Int) : impl_isVector_1 x = some (!inB 1 1000000 x) := by simp [impl_isVector_1, impl_within_eq]
theorem impl_isVector_eq (xs : List Int) (hl : xs.length ≤ 4611686018427387904) : impl_isVector xs = some (isVec xs) := by
  unfold impl_isVector
  rw [impl_within_eq, Option.bind_some, slices_ContainsFunc_Lint_int_eq xs (fun x0 => impl_isVector_1 x0) _ impl_isVector_1_eq hl]
  simp only [Option.bind_some, isVec, List.any_eq_not_all_not, Bool.not_not]
  cases inB 1 8 xs.length <;> rfl
theorem impl_IsVector_eq (xs : List Int) (hl : xs.length ≤ 4611686018427387904) : impl_IsVector xs = some (isVec xs) := by
  simp only [impl_IsVector, impl_isVector_eq xs hl, Option.bind_some]
theorem set_at {α : Type} (xs ys : List α) (i : Nat) (x : α) (hi : xs[i]? = some x) (hl : i < ys.length) : (xs.take i ++ ys.drop i).set i x = xs.take (i + 1) ++ ys.drop (i + 1) := by
  have h1 := getElem?_lt hi
  apply List.ext_getElem?
  intro j
  rw [List.getElem?_set]
  by_cases hj : i = j
  · subst hj
    have hlen : i < (xs.take i ++ ys.drop i).length := by simp; omega
    rw [if_pos rfl, if_pos hlen, List.getElem?_append_left (by simp; omega), List.getElem?_take_of_lt (by omega), hi]
  · rw [if_neg hj, List.getElem?_append, List.getElem?_append]
    simp only [List.length_take, List.getElem?_take, List.getElem?_drop]
    by_cases h2 : j < i
    · simp [show j < i + 1 by omega, h2, show min i xs.length = i by omega, show min (i + 1) xs.length = i + 1 by omega]
    · have h3 : ¬ j < i + 1 := by omega
      simp [h3, h2, show min i xs.length = i by omega, show min (i + 1) xs.length = i + 1 by omega]
      congr 1
      omega
theorem laws_toIntS_eq (xs : List Int) (hl : xs.length ≤ 1099511627776) : laws_toIntS xs = some xs := by
  have h := loop_idx (body := laws_toIntS_b1 xs) xs.length (fun i => (xs.take i ++ (List.replicate xs.length (0 : Int)).drop i, (i : Int))) xs (fun i hi => by
    have hlen : i < (xs.take i ++ (List.replicate xs.length (0 : Int)).drop i).length := by simp; omega
    simp only [laws_toIntS_b1, idxO_lt hi, idxO_lt hlen, Option.bind_some, w64_nat (show i < 9223372036854775807 by omega), show ((i : Int) < (xs.length : Int)) from by omega, decide_true, if_true, Int.toNat_natCast]
    rw [set_at _ _ _ _ (List.getElem?_eq_getElem hi) (by simpa using hi)]) (by simp [laws_toIntS_b1])
  unfold laws_toIntS
  rw [guardO_bind_pos (by omega)]
  simp only [List.take_zero, List.nil_append, List.drop_zero] at h
  rw [Int.toNat_natCast, show (0 : Int) = ((0 : Nat) : Int) from rfl]
  rw [show ((List.replicate xs.length ((0 : Nat) : Int)), ((0 : Nat) : Int)) = (List.replicate xs.length (0 : Int), ((0 : Nat) : Int)) from rfl, h]
  rfl
theorem laws_eqIntS_self (xs : List Int) (hl : xs.length ≤ 4611686018427387904) : laws_eqIntS xs xs = some true := by
  have h := loop_idx (body := laws_eqIntS_b1 xs xs) xs.length (fun i => (i : Int)) (.inr ()) (fun i hi => by
    simp only [laws_eqIntS_b1, idxO_lt hi, Option.bind_some, w64_nat (show i < 9223372036854775807 by omega), show ((i : Int) < (xs.length : Int)) from by omega, decide_true, if_true]
    simp) (by simp [laws_eqIntS_b1])
  unfold laws_eqIntS
  rw [show (0 : Int) = ((0 : Nat) : Int) from rfl, h]
  simp [laws_eqIntS_k1]
theorem laws_FnExactIsVector_eq (xs : List Int) : laws_FnExactIsVector xs = some true := by
  unfold laws_FnExactIsVector
  by_cases h : (xs.length : Int) > 1048576
  · simp [h]
  · have hl : xs.length ≤ 1048576 := by omega
    simp only [h, decide_false, Bool.false_eq_true, if_false, laws_toIntS_eq xs (by omega), spec_IsVector_eq xs (by omega), impl_IsVector_eq xs (by omega), laws_eqIntS_self xs (by omega), Option.bind_some]
    simp
end Go.PV

/-
  Plain laws: greatest divisors, fractions, floors, fractions reduced.
  Conditions: none.
-/
namespace Go.PV
theorem toNat_gcd_step (a b : Nat) (hb : b ≠ 0) : Nat.gcd b (a % b) = Nat.gcd a b := by
  rw [Nat.gcd_comm a b, Nat.gcd_rec b a, Nat.gcd_comm]
theorem impl_gcd_loop (b : Nat) : ∀ a : Nat, loopO impl_greatestDivisor_b1 ((a : Int), (b : Int)) = some ((Nat.gcd a b : Nat) : Int) := by
  induction b using Nat.strongRecOn with
  | ind b ih =>
    intro a
    rw [loopO_eq]
    by_cases hb : b = 0
    · subst hb; simp [impl_greatestDivisor_b1]
    · have hb' : ((b : Int) != 0) = true := by simp; omega
      simp only [impl_greatestDivisor_b1, hb', if_true, guardO_bind_pos (show (b : Int) ≠ 0 by omega)]
      have : Int.tmod (a : Int) (b : Int) = ((a % b : Nat) : Int) := rfl
      rw [this, ih (a % b) (Nat.mod_lt _ (by omega)) b, toNat_gcd_step a b hb]
theorem spec_gcd_loop (b : Nat) : ∀ a : Nat, loopO spec_raCommon_b1 ((a : Int), (b : Int)) = some ((Nat.gcd a b : Nat) : Int) := by
  induction b using Nat.strongRecOn with
  | ind b ih =>
    intro a
    rw [loopO_eq]
    by_cases hb : b = 0
    · subst hb; simp [spec_raCommon_b1]
    · have hb' : decide ((b : Int) > 0) = true := by simp; omega
      simp only [spec_raCommon_b1, hb', if_true, guardO_bind_pos (show (b : Int) ≠ 0 by omega)]
      have : Int.tmod (a : Int) (b : Int) = ((a % b : Nat) : Int) := rfl
      rw [this, ih (a % b) (Nat.mod_lt _ (by omega)) b, toNat_gcd_step a b hb]
theorem impl_abs_eq (a : Int) (h : -9223372036854775808 < a) (h2 : a ≤ 9223372036854775807) : impl_abs a = some (a.natAbs : Int) := by
  unfold impl_abs
  by_cases ha : a < 0
  · simp only [ha, decide_true, if_true]; rw [w64_id (by omega) (by omega)]; congr 1; omega
  · simp only [ha, decide_false, Bool.false_eq_true, if_false]; congr 1; omega
theorem spec_l1Abs_eq (a : Int) (h : -9223372036854775808 < a) (h2 : a ≤ 9223372036854775807) : spec_l1Abs a = some (a.natAbs : Int) := by
  unfold spec_l1Abs spec_l1Most
  rw [w64_id (by omega) (by omega)]
  by_cases ha : a > 0 - a
  · simp only [ha, decide_true, if_true, Option.bind_some]; congr 1; omega
  · simp only [ha, decide_false, Bool.false_eq_true, if_false, Option.bind_some]; congr 1; omega
theorem impl_greatestDivisor_eq (a b : Int) (h : -9223372036854775808 < a) (h2 : a ≤ 9223372036854775807) (h3 : -9223372036854775808 < b) (h4 : b ≤ 9223372036854775807) :
    impl_greatestDivisor a b = some ((Int.gcd a b : Nat) : Int) := by
  simp only [impl_greatestDivisor, impl_abs_eq a h h2, impl_abs_eq b h3 h4, Option.bind_some, impl_gcd_loop, impl_greatestDivisor_k1]
  rfl
theorem spec_raCommon_eq (a b : Int) (h : 0 ≤ a) (h2 : 0 ≤ b) : spec_raCommon a b = some ((Int.gcd a b : Nat) : Int) := by
  obtain ⟨m, rfl⟩ := Int.eq_ofNat_of_zero_le h
  obtain ⟨n, rfl⟩ := Int.eq_ofNat_of_zero_le h2
  simp only [spec_raCommon]
  rw [spec_gcd_loop]
  rfl

/-- A fraction that is valid. -/
def isRat (r : Int × Int) : Bool := inB 1 1000000000 r.2 && (inB (-1000000000) 1000000000 r.1 && (Int.gcd r.1 r.2 : Int) == 1)
theorem isRat_iff {r : Int × Int} : isRat r = true ↔ 1 ≤ r.2 ∧ r.2 ≤ 1000000000 ∧ -1000000000 ≤ r.1 ∧ r.1 ≤ 1000000000 ∧ Int.gcd r.1 r.2 = 1 := by
  simp only [isRat, Bool.and_eq_true, inB_iff, beq_iff_eq]
  constructor
  · rintro ⟨⟨h1, h2⟩, ⟨h3, h4⟩, h5⟩; exact ⟨h1, h2, h3, h4, by omega⟩
  · rintro ⟨h1, h2, h3, h4, h5⟩; exact ⟨⟨h1, h2⟩, ⟨h3, h4⟩, by omega⟩
theorem impl_isRat_eq (r : Int × Int) : impl_isRat r = some (isRat r) := by
  unfold impl_isRat isRat
  simp only [impl_within_eq, Option.bind_some]
  cases h1 : inB 1 1000000000 r.2
  · rfl
  · cases h2 : inB (-1000000000) 1000000000 r.1
    · rfl
    · have h1' := inB_iff.1 h1
      have h2' := inB_iff.1 h2
      simp only [if_true, impl_greatestDivisor_eq r.1 r.2 (by omega) (by omega) (by omega) (by omega), Option.bind_some, Bool.true_and]
theorem spec_raGood_eq (r : Int × Int) : spec_raGood r = some (isRat r) := by
  unfold spec_raGood isRat
  simp only [spec_l1In_eq, Option.bind_some]
  cases h1 : inB 1 1000000000 r.2
  · rfl
  · cases h2 : inB (-1000000000) 1000000000 r.1
    · rfl
    · have h1' := inB_iff.1 h1
      have h2' := inB_iff.1 h2
      simp only [if_true, spec_l1Abs_eq r.1 (by omega) (by omega), spec_raCommon_eq _ r.2 (Int.natCast_nonneg _) (by omega), Option.bind_some, Bool.true_and]
      rfl
theorem impl_areRats_eq (l : List (Int × Int)) (hl : l.length ≤ 4611686018427387904) : impl_areRats l = some (l.all isRat) := by
  have h := loop_any (xs := l) (body := impl_areRats_b1 l) (fun x => !isRat x) (fun i => (i : Int)) (.inl false) (.inr ()) (fun i x hx => by
    have hi := getElem?_lt hx
    simp only [impl_areRats_b1, idxO_nat, hx, impl_isRat_eq, Option.bind_some, w64_nat (show i < 9223372036854775807 by omega), show ((i : Int) < (l.length : Int)) from by omega, decide_true, if_true]
    cases isRat x <;> rfl) (by simp [impl_areRats_b1])
  unfold impl_areRats
  rw [show (0 : Int) = ((0 : Nat) : Int) from rfl, h, List.any_eq_not_all_not]
  simp only [Bool.not_not]
  cases l.all isRat <;> rfl
/-- In lowest terms, if it is valid. -/
def lowest (n d : Int) : (Int × Int) × Bool :=
  let g := if d < 0 then -(Int.gcd n d : Int) else Int.gcd n d
  if isRat (Int.tdiv n g, Int.tdiv d g) then ((Int.tdiv n g, Int.tdiv d g), true) else ((0, 0), false)
theorem tdiv_w64 (n g : Int) (h : -9223372036854775808 < n) (h2 : n ≤ 9223372036854775807) (hg : g ≠ 0) : w64 (Int.tdiv n g) = Int.tdiv n g := by
  have h1 : (Int.tdiv n g).natAbs ≤ n.natAbs := by rw [Int.natAbs_tdiv]; exact Nat.div_le_self _ _
  exact w64_id (by omega) (by omega)
theorem impl_lowest_eq (n d : Int) (hd : d ≠ 0) (h : -9223372036854775808 < n) (h2 : n ≤ 9223372036854775807) (h3 : -9223372036854775808 < d) (h4 : d ≤ 9223372036854775807) : impl_lowest n d = some (lowest n d) := by
  have hg0 : Int.gcd n d ≠ 0 := by rw [Ne, Int.gcd_eq_zero_iff]; omega
  have hgl : (Int.gcd n d : Int) ≤ 9223372036854775807 := by
    have : Int.gcd n d ≤ d.natAbs := Nat.gcd_le_right _ (by omega)
    omega
  have key : ∀ g : Int, g ≠ 0 → impl_lowest_k1 n d g = some (if isRat (Int.tdiv n g, Int.tdiv d g) then ((Int.tdiv n g, Int.tdiv d g), true) else ((0, 0), false)) := fun g hg => by
    simp only [impl_lowest_k1, guardO_bind_pos hg, tdiv_w64 n g h h2 hg, tdiv_w64 d g h3 h4 hg, impl_isRat_eq, Option.bind_some]
    cases isRat (Int.tdiv n g, Int.tdiv d g) <;> rfl
  unfold impl_lowest lowest
  simp only [impl_greatestDivisor_eq n d h h2 h3 h4, Option.bind_some]
  by_cases hneg : d < 0
  · simp only [hneg, decide_true, if_true]
    rw [show (0 : Int) - (Int.gcd n d : Int) = -(Int.gcd n d : Int) by omega, w64_id (by omega) (by omega), key _ (by omega)]
  · simp only [hneg, decide_false, Bool.false_eq_true, if_false]
    rw [key _ (by omega)]
theorem mul_le_9 {a b : Int} (ha : -1000000000 ≤ a) (ha2 : a ≤ 1000000000) (hb : -1000000000 ≤ b) (hb2 : b ≤ 1000000000) : -1000000000000000000 ≤ a * b ∧ a * b ≤ 1000000000000000000 := by
  have h1 : (a * b).natAbs ≤ 1000000000 * 1000000000 := by
    rw [Int.natAbs_mul]; exact Nat.mul_le_mul (by omega) (by omega)
  omega
theorem impl_AddRats_eq (a b : Int × Int) : impl_AddRats a b = some (if isRat a && isRat b then lowest (a.1 * b.2 + b.1 * a.2) (a.2 * b.2) else ((0, 0), false)) := by
  unfold impl_AddRats
  rw [impl_areRats_eq _ (by simp)]
  simp only [Option.bind_some, List.all_cons, List.all_nil, Bool.and_true]
  cases ha : isRat a
  · rfl
  · cases hb : isRat b
    · rfl
    · obtain ⟨a1, a2, a3, a4, _⟩ := isRat_iff.1 ha
      obtain ⟨b1, b2, b3, b4, _⟩ := isRat_iff.1 hb
      have m1 := mul_le_9 a3 a4 (show -1000000000 ≤ b.2 by omega) b2
      have m2 := mul_le_9 b3 b4 (show -1000000000 ≤ a.2 by omega) a2
      have m3 := mul_le_9 (show -1000000000 ≤ a.2 by omega) a2 (show -1000000000 ≤ b.2 by omega) b2
      have hne : a.2 * b.2 ≠ 0 := Int.mul_ne_zero (by omega) (by omega)
      simp only [Bool.and_self, Bool.not_true, Bool.false_eq_true, if_false, if_true]
      rw [w64_id (n := a.1 * b.2) (by omega) (by omega), w64_id (n := b.1 * a.2) (by omega) (by omega), w64_id (n := a.1 * b.2 + b.1 * a.2) (by omega) (by omega), w64_id (n := a.2 * b.2) (by omega) (by omega), impl_lowest_eq _ _ hne (by omega) (by omega) (by omega) (by omega)]
      rfl
/-! ### reduced to the unit interval -/
def near (r : Int × Int) : Bool := isRat r && inB (-1000 * r.2) (1000 * r.2) r.1
theorem spec_liNear_eq (r : Int × Int) : spec_liNear r = some (near r) := by
  unfold spec_liNear near
  simp only [spec_raGood_eq, Option.bind_some, spec_l1In_eq]
  cases h : isRat r
  · rfl
  · obtain ⟨h1, h2, h3, h4, _⟩ := isRat_iff.1 h
    simp only [if_true, Option.bind_some, Bool.true_and]
    rw [w64_id (by omega) (by omega), w64_id (by omega) (by omega)]
def cmp (a b : Int × Int) : Int := if a.1 * b.2 < b.1 * a.2 then -1 else if a.1 * b.2 > b.1 * a.2 then 1 else 0
/-- Small enough that nothing wraps. -/
def tame (r : Int × Int) : Prop := -1000000000 ≤ r.1 ∧ r.1 ≤ 1000000000 ∧ -1000000000 ≤ r.2 ∧ r.2 ≤ 1000000000
theorem tame_of {r : Int × Int} (h : isRat r = true) : tame r := by
  obtain ⟨h1, h2, h3, h4, _⟩ := isRat_iff.1 h
  exact ⟨h3, h4, by omega, h2⟩
theorem impl_compare_eq (a b : Int × Int) (ha : tame a) (hb : tame b) : impl_compare a b = some (cmp a b) := by
  obtain ⟨a1, a2, a3, a4⟩ := ha
  obtain ⟨b1, b2, b3, b4⟩ := hb
  have m1 := mul_le_9 a1 a2 b3 b4
  have m2 := mul_le_9 b1 b2 a3 a4
  unfold impl_compare cmp
  rw [w64_id (n := a.1 * b.2) (by omega) (by omega), w64_id (n := b.1 * a.2) (by omega) (by omega)]
  by_cases h1 : a.1 * b.2 < b.1 * a.2
  · simp [h1]
  · by_cases h2 : a.1 * b.2 > b.1 * a.2
    · simp [h1, h2]
    · simp [h1, h2]
def less (a b : Int × Int) : Bool := decide (a.1 * b.2 < b.1 * a.2)
theorem impl_less_eq (a b : Int × Int) (ha : tame a) (hb : tame b) : impl_less a b = some (less a b) := by
  unfold impl_less less
  rw [impl_compare_eq a b ha hb]
  unfold cmp
  by_cases h1 : a.1 * b.2 < b.1 * a.2
  · simp [h1]
  · by_cases h2 : a.1 * b.2 > b.1 * a.2
    · simp [h1, h2]
    · simp [h1, h2]
theorem impl_isFar_eq (r : Int × Int) : impl_isFar r = some (near r) := by
  unfold impl_isFar near
  simp only [impl_isRat_eq, Option.bind_some, impl_whole]
  cases h : isRat r
  · rfl
  · have ht := tame_of h
    simp only [if_true, impl_less_eq r (-1000, 1) ht ⟨by decide, by decide, by decide, by decide⟩, impl_less_eq (1000, 1) r ⟨by decide, by decide, by decide, by decide⟩ ht, Option.bind_some, less, Bool.true_and, inB]
    simp only [Int.mul_one]
    by_cases h1 : r.1 < -1000 * r.2
    · have : ¬ (-1000 * r.2 ≤ r.1) := by omega
      simp [h1, this]
    · have h3 : -1000 * r.2 ≤ r.1 := by omega
      by_cases h2 : 1000 * r.2 < r.1
      · have : ¬ (r.1 ≤ 1000 * r.2) := by omega
        simp [h1, h2, h3, this]
      · have h4 : r.1 ≤ 1000 * r.2 := by omega
        simp [h1, h2, h3, h4]
/-- The greatest integer that is not greater than n / d, for d greater than 0. -/
def floorDiv (n d : Int) : Int := if Int.tmod n d < 0 then Int.tdiv n d - 1 else Int.tdiv n d
theorem floorDiv_spec (n d : Int) (hd : 0 < d) : floorDiv n d * d ≤ n ∧ n < floorDiv n d * d + d := by
  have h1 := Int.tmod_add_mul_tdiv n d
  have h2 := Int.tmod_lt_of_pos n hd
  have h3 : -d < Int.tmod n d := by
    have := Int.lt_tmod_of_pos n hd
    omega
  unfold floorDiv
  rw [Int.mul_comm] at h1
  split
  · rw [Int.sub_mul]; omega
  · omega
theorem tdiv_bound (n d : Int) : (Int.tdiv n d).natAbs ≤ n.natAbs := by rw [Int.natAbs_tdiv]; exact Nat.div_le_self _ _
theorem impl_floorDivide_eq (n d : Int) (hd : d ≠ 0) (h : -9223372036854775807 < n) (h2 : n ≤ 9223372036854775807) : impl_floorDivide n d = some (floorDiv n d) := by
  have h1 := tdiv_bound n d
  unfold impl_floorDivide floorDiv
  rw [guardO_bind_pos hd, w64_id (n := Int.tdiv n d) (by omega) (by omega), w64_id (n := Int.tdiv n d - 1) (by omega) (by omega)]
  by_cases h3 : Int.tmod n d < 0 <;> simp [h3]
theorem spec_raDown_eq (n d : Int) (hd : d ≠ 0) (h : -9223372036854775807 < n) (h2 : n ≤ 9223372036854775807) : spec_raDown n d = some (floorDiv n d) := by
  have h1 := tdiv_bound n d
  unfold spec_raDown floorDiv
  have : (d == 0) = false := by simpa using hd
  simp only [this, Bool.false_eq_true, if_false]
  rw [guardO_bind_pos hd, w64_id (n := Int.tdiv n d) (by omega) (by omega), w64_id (n := Int.tdiv n d - 1) (by omega) (by omega)]
  by_cases h3 : Int.tmod n d < 0 <;> simp [h3]
theorem lowest_of_isRat {r : Int × Int} (h : isRat r = true) : lowest r.1 r.2 = (r, true) := by
  obtain ⟨h1, h2, h3, h4, h5⟩ := isRat_iff.1 h
  unfold lowest
  have : ¬ r.2 < 0 := by omega
  simp only [this, if_false, h5]
  simp [h]
def reduceRat (r : Int × Int) : (Int × Int) × Bool := if near r then ((r.1 - floorDiv r.1 r.2 * r.2, r.2), true) else ((0, 0), false)
theorem spec_ReduceRat_eq (r : Int × Int) : spec_ReduceRat r = some (reduceRat r) := by
  unfold spec_ReduceRat reduceRat
  rw [spec_liNear_eq, Option.bind_some]
  cases h : near r
  · rfl
  · simp only [near, Bool.and_eq_true, inB_iff] at h
    obtain ⟨hr, h6, h7⟩ := h
    obtain ⟨h1, h2, h3, h4, h5⟩ := isRat_iff.1 hr
    have hf := floorDiv_spec r.1 r.2 (by omega)
    have hb := tdiv_bound r.1 r.2
    have hfb : -1000000001 ≤ floorDiv r.1 r.2 ∧ floorDiv r.1 r.2 ≤ 1000000000 := by unfold floorDiv; split <;> omega
    simp only [Bool.not_true, Bool.false_eq_true, if_false, if_true, spec_raFloor, spec_raDown_eq r.1 r.2 (by omega) (by omega) (by omega), Option.bind_some, spec_liPlus]
    rw [w64_id (n := 0 - floorDiv r.1 r.2) (by omega) (by omega)]
    have e : (0 - floorDiv r.1 r.2) * r.2 = -(floorDiv r.1 r.2 * r.2) := by rw [Int.sub_mul]; omega
    rw [e, w64_id (n := -(floorDiv r.1 r.2 * r.2)) (by omega) (by omega), w64_id (by omega) (by omega)]
    congr 3
theorem impl_ReduceRat_eq (r : Int × Int) : impl_ReduceRat r = some (reduceRat r) := by
  unfold impl_ReduceRat reduceRat
  rw [impl_isFar_eq, Option.bind_some]
  cases h : near r
  · rfl
  · simp only [near, Bool.and_eq_true, inB_iff] at h
    obtain ⟨hr, h6, h7⟩ := h
    obtain ⟨h1, h2, h3, h4, h5⟩ := isRat_iff.1 hr
    have hf := floorDiv_spec r.1 r.2 (by omega)
    have hfb : -1000 ≤ floorDiv r.1 r.2 ∧ floorDiv r.1 r.2 ≤ 1000 := by
      constructor
      · by_cases h : floorDiv r.1 r.2 < -1000
        · have : floorDiv r.1 r.2 * r.2 + r.2 ≤ -1000 * r.2 := by
            have : (floorDiv r.1 r.2 + 1) * r.2 ≤ -1000 * r.2 := Int.mul_le_mul_of_nonneg_right (by omega) (by omega)
            rw [Int.add_mul] at this; omega
          omega
        · omega
      · by_cases h : 1000 < floorDiv r.1 r.2
        · have : 1001 * r.2 ≤ floorDiv r.1 r.2 * r.2 := Int.mul_le_mul_of_nonneg_right (by omega) (by omega)
          omega
        · omega
    simp only [Bool.not_true, Bool.false_eq_true, if_false, if_true, impl_floor, impl_floorDivide_eq r.1 r.2 (by omega) (by omega) (by omega), Option.bind_some, impl_whole, impl_SubtractRats, impl_negated, impl_AddRats_eq]
    rw [w64_id (n := 0 - floorDiv r.1 r.2) (by omega) (by omega)]
    have hone : isRat (0 - floorDiv r.1 r.2, 1) = true := isRat_iff.2 ⟨by simp, by simp, by simp only []; omega, by simp only []; omega, by simp⟩
    simp only [hr, hone, Bool.and_self, if_true, Int.mul_one]
    have e : r.1 + (0 - floorDiv r.1 r.2) * r.2 = r.1 - floorDiv r.1 r.2 * r.2 := by rw [Int.sub_mul]; omega
    rw [e]
    have hres : isRat (r.1 - floorDiv r.1 r.2 * r.2, r.2) = true := isRat_iff.2 ⟨h1, h2, by simp only []; omega, by simp only []; omega, by
      simp only []
      rw [show r.1 - floorDiv r.1 r.2 * r.2 = r.1 + (-(floorDiv r.1 r.2)) * r.2 by rw [Int.neg_mul]; omega, Int.gcd_add_mul_right_left]
      exact h5⟩
    rw [lowest_of_isRat hres]
theorem laws_eqRat_self (r : Int × Int) : laws_eqRat r r = some true := by simp [laws_eqRat]
theorem laws_FnExactReduceRat_eq (r : Int × Int) : laws_FnExactReduceRat r = some true := by
  simp [laws_FnExactReduceRat, laws_toRat, spec_ReduceRat_eq, impl_ReduceRat_eq, laws_eqRat_self]
end Go.PV

set_option linter.all false
namespace Go.PV
abbrev Pt := (Int × Int) × (Int × Int)
def zP : Pt := ((0, 0), (0, 0))
theorem slices_IndexFunc_Limpl_Point_impl_Point_eq (xs : List Pt) (f : Pt → Option Bool) (p : Pt → Bool) (hf : ∀ x, f x = some (p x)) (hl : xs.length ≤ 4611686018427387904) :
    slices_IndexFunc_Limpl_Point_impl_Point xs f = some (match xs.findIdx? p with | some i => (i : Int) | none => -1) := by
  have h := loop_first (xs := xs) (body := slices_IndexFunc_Limpl_Point_impl_Point_b1 xs f) p (fun i => (i : Int)) (fun i => .inl (i : Int)) (.inr ()) (fun i x hx => by
    have hi := getElem?_lt hx
    simp only [slices_IndexFunc_Limpl_Point_impl_Point_b1, idxO_nat, hx, hf, Option.bind_some, w64_nat (show i < 9223372036854775807 by omega), show ((i : Int) < (xs.length : Int)) from by omega, decide_true, if_true]
    cases p x <;> rfl) (by simp [slices_IndexFunc_Limpl_Point_impl_Point_b1])
  unfold slices_IndexFunc_Limpl_Point_impl_Point
  rw [show (0 : Int) = ((0 : Nat) : Int) from rfl, h]
  cases xs.findIdx? p <;> rfl
theorem slices_ContainsFunc_Limpl_Point_impl_Point_eq (xs : List Pt) (f : Pt → Option Bool) (p : Pt → Bool) (hf : ∀ x, f x = some (p x)) (hl : xs.length ≤ 4611686018427387904) : slices_ContainsFunc_Limpl_Point_impl_Point xs f = some (xs.any p) := by
  simp only [slices_ContainsFunc_Limpl_Point_impl_Point, slices_IndexFunc_Limpl_Point_impl_Point_eq xs f p hf hl, Option.bind_some]
  cases h : xs.findIdx? p with
  | none =>
    have hn := List.findIdx?_eq_none_iff.1 h
    have : xs.any p = false := by simpa using hn
    simp [this]
  | some m =>
    obtain ⟨hm, hp, _⟩ := List.findIdx?_eq_some_iff_getElem.1 h
    have : xs.any p = true := List.any_eq_true.2 ⟨xs[m], List.getElem_mem hm, hp⟩
    simp [this]

theorem laws_toPoint_eq (p : Pt) : laws_toPoint p = some p := rfl
theorem laws_toPointS_eq (xs : List Pt) (hl : xs.length ≤ 1099511627776) : laws_toPointS xs = some xs := by
  have h := loop_idx (body := laws_toPointS_b1 xs) xs.length (fun i => (xs.take i ++ (List.replicate xs.length zP).drop i, (i : Int))) xs (fun i hi => by
    have hlen : i < (xs.take i ++ (List.replicate xs.length zP).drop i).length := by simp; omega
    simp only [laws_toPointS_b1, idxO_lt hi, idxO_lt hlen, laws_toPoint_eq, Option.bind_some, w64_nat (show i < 9223372036854775807 by omega), show ((i : Int) < (xs.length : Int)) from by omega, decide_true, if_true, Int.toNat_natCast]
    rw [set_at _ _ _ _ (List.getElem?_eq_getElem hi) (by simpa using hi)]) (by simp [laws_toPointS_b1])
  unfold laws_toPointS
  rw [guardO_bind_pos (by omega)]
  simp only [List.take_zero, List.nil_append, List.drop_zero] at h
  rw [Int.toNat_natCast]
  have h' : loopO (laws_toPointS_b1 xs) (List.replicate xs.length ((0, 0), (0, 0)), 0) = some xs := h
  rw [h']
  rfl
theorem laws_eqPoint_self (p : Pt) : laws_eqPoint p p = some true := by simp [laws_eqPoint, laws_eqRat_self]
theorem laws_eqPointS_self (xs : List Pt) (hl : xs.length ≤ 4611686018427387904) : laws_eqPointS xs xs = some true := by
  have h := loop_idx (body := laws_eqPointS_b1 xs xs) xs.length (fun i => (i : Int)) (.inr ()) (fun i hi => by
    simp only [laws_eqPointS_b1, idxO_lt hi, laws_eqPoint_self, Option.bind_some, w64_nat (show i < 9223372036854775807 by omega), show ((i : Int) < (xs.length : Int)) from by omega, decide_true, if_true]
    simp) (by simp [laws_eqPointS_b1])
  unfold laws_eqPointS
  rw [show (0 : Int) = ((0 : Nat) : Int) from rfl, h]
  simp [laws_eqPointS_k1]
theorem laws_szPointS_eq (xs : List Pt) (m : Nat) (hm : m ≤ 4611686018427387904) (hl : xs.length ≤ 9223372036854775807) : laws_szPointS xs (m : Int) = some (if m < xs.length then -1 else (m : Int) - xs.length) := by
  unfold laws_szPointS
  rw [w64_id (by omega) (by omega)]
  by_cases h : m < xs.length
  · have : (m : Int) - xs.length < 0 := by omega
    simp [this, h]
  · have : ¬ (m : Int) - xs.length < 0 := by omega
    simp [this, h]

/-! ### cmp -/
theorem spec_raCmp_eq (a b : Int × Int) (ha : tame a) (hb : tame b) : spec_raCmp a b = some (cmp a b) := by
  obtain ⟨a1, a2, a3, a4⟩ := ha
  obtain ⟨b1, b2, b3, b4⟩ := hb
  have m1 := mul_le_9 a1 a2 b3 b4
  have m2 := mul_le_9 b1 b2 a3 a4
  unfold spec_raCmp spec_l1Sign cmp
  rw [w64_id (n := a.1 * b.2) (by omega) (by omega), w64_id (n := b.1 * a.2) (by omega) (by omega), w64_id (n := a.1 * b.2 - b.1 * a.2) (by omega) (by omega)]
  by_cases h1 : a.1 * b.2 < b.1 * a.2
  · have : ¬ (a.1 * b.2 - b.1 * a.2 > 0) := by omega
    have h3 : a.1 * b.2 - b.1 * a.2 < 0 := by omega
    simp [h1, h3]; omega
  · by_cases h2 : a.1 * b.2 > b.1 * a.2
    · have : a.1 * b.2 - b.1 * a.2 > 0 := by omega
      simp [h1, h2, this]
    · have h3 : ¬ (a.1 * b.2 - b.1 * a.2 > 0) := by omega
      have h4 : ¬ (a.1 * b.2 - b.1 * a.2 < 0) := by omega
      simp [h1, h2, h3, h4]
theorem cmp_ge (a b : Int × Int) : decide (cmp a b ≥ 0) = !less a b := by
  unfold cmp less
  by_cases h1 : a.1 * b.2 < b.1 * a.2
  · simp [h1]
  · by_cases h2 : a.1 * b.2 > b.1 * a.2 <;> simp [h1, h2]
theorem cmp_gt (a b : Int × Int) : decide (cmp a b > 0) = less b a := by
  unfold cmp less
  by_cases h1 : a.1 * b.2 < b.1 * a.2
  · have : ¬ b.1 * a.2 < a.1 * b.2 := by omega
    simp [h1, this]
  · by_cases h2 : a.1 * b.2 > b.1 * a.2
    · simp [h1, h2]
    · have : ¬ b.1 * a.2 < a.1 * b.2 := by omega
      simp [h1, h2]
theorem cmp_zero (a b : Int × Int) : (cmp a b == 0) = (a.1 * b.2 == b.1 * a.2) := by
  unfold cmp
  by_cases h1 : a.1 * b.2 < b.1 * a.2
  · have : ¬ a.1 * b.2 = b.1 * a.2 := by omega
    simp [h1, this]
  · by_cases h2 : a.1 * b.2 > b.1 * a.2
    · have : ¬ a.1 * b.2 = b.1 * a.2 := by omega
      simp [h1, h2, this]
    · have : a.1 * b.2 = b.1 * a.2 := by omega
      simp [this]

/-! ### coordinates -/
def isUnit (r : Int × Int) : Bool := isRat r && inB 0 r.2 r.1
def coord (r : Int × Int) : Bool := isUnit r && decide (r.2 ≤ 100)
theorem spec_raUnit_eq (r : Int × Int) : spec_raUnit r = some (isUnit r) := by
  unfold spec_raUnit isUnit
  simp only [spec_raGood_eq, Option.bind_some, spec_l1In_eq]
  cases isRat r <;> simp
theorem impl_isUnit_eq (r : Int × Int) : impl_isUnit r = some (isUnit r) := by
  simp [impl_isUnit, impl_isRat_eq, isUnit, inB]
theorem spec_imCoord_eq (r : Int × Int) : spec_imCoord r = some (coord r) := by simp [spec_imCoord, spec_raUnit_eq, coord]
theorem impl_isCoord_eq (r : Int × Int) : impl_isCoord r = some (coord r) := by simp [impl_isCoord, impl_isUnit_eq, coord]
theorem coord_rat {r : Int × Int} (h : coord r = true) : isRat r = true := by
  simp only [coord, isUnit, Bool.and_eq_true] at h
  exact h.1.1
/-- A point of a lift. -/
def goodPt (p : Pt) : Bool := coord p.1 && (isRat p.2 && (decide (p.2.2 ≤ 100) && inB (-5 * p.2.2) (5 * p.2.2) p.2.1))
theorem goodPt_tame {p : Pt} (h : goodPt p = true) : isRat p.1 = true ∧ isRat p.2 = true := by
  simp only [goodPt, Bool.and_eq_true] at h
  exact ⟨coord_rat h.1, h.2.1⟩
theorem impl_isLift_1_eq (p : Pt) : impl_isLift_1 p = some (!goodPt p) := by
  unfold impl_isLift_1 goodPt
  simp only [impl_isCoord_eq, impl_isRat_eq, impl_whole, Option.bind_some]
  cases h1 : coord p.1
  · simp
  · cases h : isRat p.2
    · simp
    · have ht := tame_of h
      obtain ⟨h2, h3, h4, h5, _⟩ := isRat_iff.1 h
      by_cases h6 : p.2.2 > 100
      · have : ¬ p.2.2 ≤ 100 := by omega
        simp [h6, this]
      · have h7 : p.2.2 ≤ 100 := by omega
        simp only [Bool.not_true, Bool.false_eq_true, if_false, h6, h7, decide_false, decide_true, impl_less_eq p.2 (-5, 1) ht ⟨by decide, by decide, by decide, by decide⟩, impl_less_eq (5, 1) p.2 ⟨by decide, by decide, by decide, by decide⟩ ht, Option.bind_some, less, Bool.true_and, inB]
        simp only [Int.mul_one]
        by_cases h8 : p.2.1 < -5 * p.2.2
        · have : ¬ (-5 * p.2.2 ≤ p.2.1) := by omega
          simp [h8, this]
        · have h9 : -5 * p.2.2 ≤ p.2.1 := by omega
          by_cases h10 : 5 * p.2.2 < p.2.1
          · have : ¬ (p.2.1 ≤ 5 * p.2.2) := by omega
            simp [h8, h9, h10, this]
          · have h11 : p.2.1 ≤ 5 * p.2.2 := by omega
            simp [h8, h9, h10, h11]
/-- From a point to the next. -/
def stepPt (a b : Pt) : Bool := less a.1 b.1 && !less b.2 a.2
def steps (xs : List Pt) (n : Nat) : Prop := ∀ i a b, 0 < i → i < n → xs[i - 1]? = some a → xs[i]? = some b → stepPt a b = true
theorem steps_succ {xs : List Pt} {i : Nat} {a b : Pt} (h : steps xs i) (ha : xs[i - 1]? = some a) (hb : xs[i]? = some b) (hs : stepPt a b = true) : steps xs (i + 1) := by
  intro j c d h1 h2 h3 h4
  by_cases hj : j = i
  · subst hj; rw [ha] at h3; rw [hb] at h4; cases h3; cases h4; exact hs
  · exact h j c d h1 (by omega) h3 h4
/-- The ends. -/
def ends (xs : List Pt) : Bool := match xs[0]?, xs[xs.length - 1]? with
  | some a, some b => (a.1 == (0, 1)) && ((b.1 == (1, 1)) && (b.2 == (a.2.1 + a.2.2, a.2.2)))
  | _, _ => false
open Classical in
/-- The maps of the circle's lifts. -/
noncomputable def isLift (xs : List Pt) : Bool := inB 2 12 xs.length && (decide (xs.all goodPt = true ∧ steps xs xs.length) && ends xs)
end Go.PV

/-
  Plain laws: lists and tables by their places.
  Conditions: none.
-/
namespace Go.PV
section
variable {α β : Type}
/-- The list of n elements with f i at place i. -/
def tab (n : Nat) (f : Nat → α) : List α := (List.range n).map f
theorem tab_len (n : Nat) (f : Nat → α) : (tab n f).length = n := by simp [tab]
theorem tab_get {n i : Nat} {f : Nat → α} (h : i < n) : (tab n f)[i]? = some (f i) := by simp [tab, h]
theorem tab_get_none {n i : Nat} {f : Nat → α} (h : n ≤ i) : (tab n f)[i]? = none := by simp [tab, h]
theorem idxO_tab {n i : Nat} {f : Nat → α} (h : i < n) : idxO (tab n f) (i : Int) = some (f i) := by rw [idxO_nat, tab_get h]
theorem tab_ext {n : Nat} {f g : Nat → α} (h : ∀ i, i < n → f i = g i) : tab n f = tab n g := List.map_congr_left fun i hi => h i (List.mem_range.1 hi)
theorem tab_set {n i : Nat} {f : Nat → α} {v : α} (h : i < n) : (tab n f).set i v = tab n (fun k => if k = i then v else f k) := by
  apply List.ext_getElem?
  intro j
  rw [List.getElem?_set]
  by_cases hij : i = j
  · subst hij
    rw [if_pos rfl, if_pos (by rw [tab_len]; exact h), tab_get h, if_pos rfl]
  · rw [if_neg hij]
    by_cases hj : j < n
    · rw [tab_get hj, tab_get hj, if_neg (Ne.symm hij)]
    · rw [tab_get_none (by omega), tab_get_none (by omega)]
theorem rep_tab (n : Nat) (v : α) : List.replicate n v = tab n (fun _ => v) := by
  apply List.ext_getElem?
  intro j
  by_cases hj : j < n
  · rw [tab_get hj]; simp [hj]
  · rw [tab_get_none (by omega)]; simp [hj]
theorem tab_succ (n : Nat) (f : Nat → α) : tab n f ++ [f n] = tab (n + 1) f := by simp [tab, List.range_succ]
theorem tab_zero (f : Nat → α) : tab 0 f = [] := rfl
theorem tab_eta [Inhabited α] (xs : List α) : xs = tab xs.length (fun i => xs.getD i default) := by
  apply List.ext_getElem?
  intro j
  by_cases hj : j < xs.length
  · rw [tab_get hj]; simp [hj]
  · rw [tab_get_none (by omega)]; simp; omega
theorem tab_map {n : Nat} {f : Nat → α} (g : α → β) : (tab n f).map g = tab n (fun i => g (f i)) := by simp [tab]
theorem tab_mem {n : Nat} {f : Nat → α} {x : α} : x ∈ tab n f ↔ ∃ i, i < n ∧ f i = x := by simp [tab]
theorem tab_all {n : Nat} {f : Nat → α} {p : α → Bool} : (tab n f).all p = true ↔ ∀ i, i < n → p (f i) = true := by simp [tab]
/-- The table with f i j at row i, place j. -/
def mat (n m : Nat) (f : Nat → Nat → α) : List (List α) := tab n fun i => tab m (f i)
theorem mat_ext {n m : Nat} {f g : Nat → Nat → α} (h : ∀ i j, i < n → j < m → f i j = g i j) : mat n m f = mat n m g := tab_ext fun i hi => tab_ext fun j hj => h i j hi hj
theorem mat_set {n m i j : Nat} {f : Nat → Nat → α} {v : α} (hi : i < n) (hj : j < m) : (mat n m f).set i ((tab m (f i)).set j v) = mat n m (fun a b => if a = i ∧ b = j then v else f a b) := by
  unfold mat
  rw [tab_set hi, tab_set hj]
  refine tab_ext fun a _ => ?_
  by_cases ha : a = i
  · subst ha; simp
  · rw [if_neg ha]; exact tab_ext fun b _ => by simp [ha]
theorem mat_set2 {n m i j : Nat} {f : Nat → Nat → α} {r : Nat → α} {v : α} (hi : i < n) (hj : j < m) : (mat n m f).set i ((tab m r).set j v) = mat n m (fun a b => if a = i then (if b = j then v else r b) else f a b) := by
  unfold mat
  rw [tab_set hi, tab_set hj]
  refine tab_ext fun a _ => ?_
  by_cases ha : a = i
  · subst ha; simp
  · rw [if_neg ha]; exact tab_ext fun b _ => by simp [ha]
theorem mat_len (n m : Nat) (f : Nat → Nat → α) : (mat n m f).length = n := tab_len _ _
theorem idxO_mat {n m i : Nat} {f : Nat → Nat → α} (h : i < n) : idxO (mat n m f) (i : Int) = some (tab m (f i)) := idxO_tab h
/-- A fold over the first n numbers. -/
def foldN (n : Nat) (g : β → Nat → β) (s : β) : β := (List.range n).foldl g s
theorem foldN_succ (n : Nat) (g : β → Nat → β) (s : β) : foldN (n + 1) g s = g (foldN n g s) n := by simp [foldN, List.range_succ]
theorem foldN_zero (g : β → Nat → β) (s : β) : foldN 0 g s = s := rfl
theorem foldN_ext {n : Nat} {g h : β → Nat → β} {s : β} (H : ∀ b i, i < n → g b i = h b i) : foldN n g s = foldN n h s := by
  induction n with
  | zero => rfl
  | succ n ih => rw [foldN_succ, foldN_succ, ih fun b i hi => H b i (by omega), H _ _ (by omega)]
end
end Go.PV

/-
  Plain laws: graphs, numbers of walks.
  Conditions: none.
-/
namespace Go.PV
/-! ### what comes in -/
def sized (g : List (List Int)) : Prop := g.length ≤ 1048576 ∧ ∀ row ∈ g, row.length ≤ 1048576
theorem laws_szIntS_eq (xs : List Int) (l : Int) (h0 : 0 ≤ l) (h1 : l ≤ 1048576) (hl : xs.length ≤ 9223372036854775807) : laws_szIntS xs l = some (if l - xs.length < 0 then -1 else l - xs.length) := by
  unfold laws_szIntS
  rw [w64_id (by omega) (by omega)]
  by_cases h : l - (xs.length : Int) < 0 <;> simp [h]
theorem laws_szIntSS_eq (g : List (List Int)) (hl : g.length ≤ 9223372036854775807) (hr : ∀ row ∈ g, row.length ≤ 9223372036854775807) : ∃ v, laws_szIntSS g 1048576 = some v ∧ (0 ≤ v → sized g) := by
  unfold laws_szIntSS
  rw [w64_id (by omega) (by omega)]
  by_cases h : (1048576 : Int) - (g.length : Int) < 0
  · exact ⟨-1, by simp [h], by omega⟩
  · simp only [h, decide_false, Bool.false_eq_true, if_false]
    obtain ⟨y, h1, h2⟩ := loop_run (body := laws_szIntSS_b1 g) (fun x => ∃ k : Nat, x.2 = k ∧ k ≤ g.length ∧ 0 ≤ x.1 ∧ x.1 ≤ 1048576 ∧ ∀ row ∈ g.take k, row.length ≤ 1048576) (fun x => g.length - x.2.toNat) (fun y => y = .inl (-1) ∨ ∃ l, y = .inr l ∧ sized g)
      (fun ⟨l, i⟩ ⟨k, hk, hkn, h3, h4, h5⟩ => by
        simp only at hk h3 h4
        subst hk
        by_cases hlt : k < g.length
        · have hrow := hr g[k] (List.getElem_mem hlt)
          simp only [laws_szIntSS_b1, idxO_lt hlt, Option.bind_some, show ((k : Int) < (g.length : Int)) from by omega, decide_true, if_true, laws_szIntS_eq _ l h3 h4 hrow]
          by_cases hn : l - (g[k].length : Int) < 0
          · right; exact ⟨_, by simp [hn], .inl rfl⟩
          · left
            refine ⟨(l - g[k].length, ((k + 1 : Nat) : Int)), by simp [hn, w64_nat (show k < 9223372036854775807 by omega)], ⟨k + 1, rfl, hlt, by simp only []; omega, by simp only []; omega, ?_⟩, by simp only [Int.toNat_natCast]; omega⟩
            intro row hrow'
            rw [List.take_add_one, List.getElem?_eq_getElem hlt] at hrow'
            rcases List.mem_append.1 hrow' with h6 | h6
            · exact h5 row h6
            · simp at h6; subst h6; omega
        · right
          refine ⟨.inr l, by simp [laws_szIntSS_b1, show ¬ ((k : Int) < (g.length : Int)) by omega], .inr ⟨l, rfl, by omega, ?_⟩⟩
          rwa [List.take_of_length_le (by omega)] at h5)
      (1048576 - (g.length : Int), 0) ⟨0, rfl, by omega, by simp only []; omega, by simp only []; omega, by simp⟩
    rw [h1]
    rcases h2 with rfl | ⟨l, rfl, h3⟩
    · exact ⟨-1, rfl, by omega⟩
    · exact ⟨l, rfl, fun _ => h3⟩
theorem laws_toIntSS_eq (g : List (List Int)) (h : sized g) : laws_toIntSS g = some g := by
  obtain ⟨hl, hr⟩ := h
  have hx := loop_idx (body := laws_toIntSS_b1 g) g.length (fun i => (g.take i ++ (List.replicate g.length ([] : List Int)).drop i, (i : Int))) g (fun i hi => by
    have hlen : i < (g.take i ++ (List.replicate g.length ([] : List Int)).drop i).length := by simp; omega
    simp only [laws_toIntSS_b1, idxO_lt hi, idxO_lt hlen, Option.bind_some, laws_toIntS_eq g[i] (by have := hr g[i] (List.getElem_mem hi); omega), w64_nat (show i < 9223372036854775807 by omega), show ((i : Int) < (g.length : Int)) from by omega, decide_true, if_true, Int.toNat_natCast]
    rw [set_at _ _ _ _ (List.getElem?_eq_getElem hi) (by simpa using hi)]) (by simp [laws_toIntSS_b1])
  unfold laws_toIntSS
  rw [guardO_bind_pos (by omega)]
  simp only [List.take_zero, List.nil_append, List.drop_zero] at hx
  rw [Int.toNat_natCast, show (0 : Int) = ((0 : Nat) : Int) from rfl, hx]
  rfl
theorem laws_eqIntSS_self (g : List (List Int)) (h : sized g) : laws_eqIntSS g g = some true := by
  obtain ⟨hl, hr⟩ := h
  have h := loop_idx (body := laws_eqIntSS_b1 g g) g.length (fun i => (i : Int)) (.inr ()) (fun i hi => by
    simp only [laws_eqIntSS_b1, idxO_lt hi, Option.bind_some, laws_eqIntS_self g[i] (by have := hr g[i] (List.getElem_mem hi); omega), w64_nat (show i < 9223372036854775807 by omega), show ((i : Int) < (g.length : Int)) from by omega, decide_true, if_true]
    simp) (by simp [laws_eqIntSS_b1])
  unfold laws_eqIntSS
  rw [show (0 : Int) = ((0 : Nat) : Int) from rfl, h]
  simp [laws_eqIntSS_k1]
/-! ### graphs -/
def isGraph (g : List (List Int)) : Bool := inB 1 8 g.length && g.all fun row => (row.length : Int) == g.length && row.all (inB 0 9)
theorem contains_LL (xs : List (List Int)) (f : List Int → Option Bool) (p : List Int → Bool) (hf : ∀ x ∈ xs, f x = some (p x)) (hl : xs.length ≤ 4611686018427387904) : slices_ContainsFunc_LLint_Lint xs f = some (xs.any p) := by
  have h := loop_first (xs := xs) (body := slices_IndexFunc_LLint_Lint_b1 xs f) p (fun i => (i : Int)) (fun i => .inl (i : Int)) (.inr ()) (fun i x hx => by
    have hi := getElem?_lt hx
    simp only [slices_IndexFunc_LLint_Lint_b1, idxO_nat, hx, hf x (List.mem_of_getElem? hx), Option.bind_some, w64_nat (show i < 9223372036854775807 by omega), show ((i : Int) < (xs.length : Int)) from by omega, decide_true, if_true]
    cases p x <;> rfl) (by simp [slices_IndexFunc_LLint_Lint_b1])
  unfold slices_ContainsFunc_LLint_Lint slices_IndexFunc_LLint_Lint
  rw [show (0 : Int) = ((0 : Nat) : Int) from rfl, h]
  cases hx : xs.findIdx? p with
  | none =>
    have hn := List.findIdx?_eq_none_iff.1 hx
    have : xs.any p = false := by simpa using hn
    simp [this, slices_IndexFunc_LLint_Lint_k1]
  | some m =>
    obtain ⟨hm, hp, _⟩ := List.findIdx?_eq_some_iff_getElem.1 hx
    have : xs.any p = true := by simp; exact ⟨xs[m], List.getElem_mem hm, hp⟩
    simp [this]
theorem impl_isGraph_1_1_eq (x : Int) : impl_isGraph_1_1 x = some (!inB 0 9 x) := by simp [impl_isGraph_1_1, impl_within_eq]
theorem impl_isGraph_1_eq (row : List Int) (g : List (List Int)) (hl : row.length ≤ 4611686018427387904) : impl_isGraph_1 row g = some (!((row.length : Int) == g.length && row.all (inB 0 9))) := by
  unfold impl_isGraph_1
  rw [slices_ContainsFunc_Lint_int_eq row (fun x0 => impl_isGraph_1_1 x0) _ impl_isGraph_1_1_eq hl]
  by_cases hc : (row.length : Int) = g.length
  · simp [hc, List.any_eq_not_all_not]
  · simp [hc]
theorem impl_isGraph_eq (g : List (List Int)) (h : sized g) : impl_isGraph g = some (isGraph g) := by
  obtain ⟨hl, hr⟩ := h
  unfold impl_isGraph
  rw [impl_within_eq, Option.bind_some, contains_LL g (fun x0 => impl_isGraph_1 x0 g) _ (fun x hx => impl_isGraph_1_eq x g (by have := hr x hx; omega)) (by omega)]
  simp only [Option.bind_some, isGraph, List.any_eq_not_all_not, Bool.not_not]
  cases inB 1 8 g.length <;> rfl
theorem spec_grGood_eq (g : List (List Int)) (h : sized g) : spec_grGood g = some (isGraph g) := by
  obtain ⟨hl, hr⟩ := h
  have hx := loop_any (xs := g) (body := spec_grGood_b1 g) (fun row => !((row.length : Int) == g.length && row.all (inB 0 9))) (fun i => (i : Int)) (.inl false) (.inr ()) (fun i x hx => by
    have hi := getElem?_lt hx
    have hlx := hr x (List.mem_of_getElem? hx)
    simp only [spec_grGood_b1, idxO_nat, hx, Option.bind_some, spec_l1All_eq x 0 9 (by omega), w64_nat (show i < 9223372036854775807 by omega), show ((i : Int) < (g.length : Int)) from by omega, decide_true, if_true, bne]
    cases (x.length : Int) == g.length
    · rfl
    · cases x.all (inB 0 9) <;> rfl) (by simp [spec_grGood_b1])
  unfold spec_grGood isGraph
  rw [spec_l1In_eq, Option.bind_some, show (0 : Int) = ((0 : Nat) : Int) from rfl, hx, List.any_eq_not_all_not]
  simp only [Bool.not_not]
  cases inB 1 8 g.length
  · rfl
  · simp only [Bool.not_true, Bool.false_eq_true, if_false, Bool.true_and, Option.bind_some]
    cases (g.all fun row => (row.length : Int) == g.length && row.all (inB 0 9)) <;> rfl
/-- A graph as a table. -/
theorem isGraph_mat {g : List (List Int)} (h : isGraph g = true) : ∃ (n : Nat) (G : Nat → Nat → Int), 1 ≤ n ∧ n ≤ 8 ∧ g = mat n n G ∧ ∀ i j, i < n → j < n → 0 ≤ G i j ∧ G i j ≤ 9 := by
  simp only [isGraph, Bool.and_eq_true, inB_iff, List.all_eq_true, beq_iff_eq] at h
  obtain ⟨⟨h1, h2⟩, h3⟩ := h
  refine ⟨g.length, fun i j => (g.getD i []).getD j 0, by omega, by omega, ?_, fun i j hi hj => ?_⟩
  · refine (tab_eta g).trans (tab_ext fun i hi => ?_)
    have hlen := (h3 g[i] (List.getElem_mem hi)).1
    have e : g.getD i default = g[i] := by simp [hi]
    have e2 : g.getD i [] = g[i] := by simp [hi]
    rw [e]
    show g[i] = tab g.length (fun j => (g.getD i []).getD j 0)
    rw [e2]
    refine (tab_eta g[i]).trans ?_
    rw [show g[i].length = g.length by omega]
    rfl
  · have hrow := h3 g[i] (List.getElem_mem hi)
    have e : g.getD i [] = g[i] := by simp [hi]
    have hj' : j < g[i].length := by omega
    have e2 : g[i].getD j 0 = g[i][j] := by simp [hj']
    simp only [e, e2]
    exact hrow.2 _ (List.getElem_mem hj')
end Go.PV

/-
  Plain laws: powers of graphs' tables, numbers of all walks.
  Conditions: none.
-/
namespace Go.PV
def capMul (most acc w a : Int) : Int := if most < w64 (acc + w64 (w * a)) then most else w64 (acc + w64 (w * a))
def powStep (n : Nat) (G : Nat → Nat → Int) (most : Int) (F : Nat → Nat → Int) : Nat → Nat → Int := fun i j => foldN n (fun acc k => capMul most acc (F i k) (G k j)) 0
def idM : Nat → Nat → Int := fun i j => if i = j then 1 else 0
def powN (n : Nat) (G : Nat → Nat → Int) (most : Int) : Nat → Nat → Nat → Int
  | 0 => idM
  | m + 1 => powStep n G most (powN n G most m)
theorem impl_emptyGraph_eq (n : Nat) (hn : n ≤ 1048576) : impl_emptyGraph (n : Int) = some (mat n n fun _ _ => 0) := by
  have hx := loop_idx (body := impl_emptyGraph_b1 (n : Int)) n (fun i => (tab n (fun a => if a < i then tab n (fun _ => (0 : Int)) else []), (i : Int))) (mat n n fun _ _ => 0) (fun i hi => by
    simp only [impl_emptyGraph_b1, Int.toNat_natCast, List.length_replicate, idxO_tab hi, Option.bind_some, w64_nat (show i < 9223372036854775807 by omega), show ((i : Int) < (n : Int)) from by omega, decide_true, if_true]
    rw [tab_set hi, rep_tab]
    congr 3
    refine tab_ext fun a _ => ?_
    by_cases h1 : a = i
    · subst h1; simp
    · by_cases h2 : a < i
      · simp [h1, h2, show a < i + 1 by omega]
      · simp [h1, h2, show ¬ a < i + 1 by omega]) (by
    simp only [impl_emptyGraph_b1, Int.toNat_natCast, List.length_replicate, Int.lt_irrefl, decide_false, Bool.false_eq_true, if_false]
    congr 2
    exact tab_ext fun a ha => by simp [ha])
  unfold impl_emptyGraph
  rw [guardO_bind_pos (by omega), Int.toNat_natCast, rep_tab]
  simp only [Nat.not_lt_zero, if_false] at hx
  rw [show (0 : Int) = ((0 : Nat) : Int) from rfl, hx]
  rfl
section impl
variable {n : Nat} {G : Nat → Nat → Int} {most : Int}
theorem impl_b4 (hn : n ≤ 8) {i k : Nat} (hi : i < n) (N : Nat → Nat → Int) (X : List (List Int)) (w : Int) :
    loopO (impl_powerUpTo_b4 most (X, (i : Int)) w (tab n (G k))) (mat n n N, 0) = some (mat n n (fun a b => if a = i then capMul most (N a b) w (G k b) else N a b)) := by
  have hx := loop_idx (body := impl_powerUpTo_b4 most (X, (i : Int)) w (tab n (G k))) n (fun j => (mat n n (fun a b => if a = i ∧ b < j then capMul most (N a b) w (G k b) else N a b), (j : Int))) (mat n n (fun a b => if a = i then capMul most (N a b) w (G k b) else N a b)) (fun j hj => by
    simp only [impl_powerUpTo_b4, tab_len, idxO_tab hj, idxO_mat hi, Option.bind_some, w64_nat (show j < 9223372036854775807 by omega), show ((j : Int) < (n : Int)) from by omega, decide_true, if_true, Int.toNat_natCast]
    rw [mat_set2 hi hj]
    congr 3
    refine mat_ext fun a b _ _ => ?_
    by_cases ha : a = i
    · subst ha
      by_cases hb : b = j
      · subst hb; simp [capMul]
      · by_cases h2 : b < j
        · simp [hb, h2, show b < j + 1 by omega]
        · simp [hb, h2, show ¬ b < j + 1 by omega]
    · simp [ha]) (by
    simp only [impl_powerUpTo_b4, tab_len, Int.lt_irrefl, decide_false, Bool.false_eq_true, if_false]
    congr 2
    exact mat_ext fun a b _ hb => by simp [hb])
  simpa using hx
theorem impl_b3 (hn : n ≤ 8) {i : Nat} (hi : i < n) (N : Nat → Nat → Int) (X : List (List Int)) (w : Nat → Int) :
    loopO (impl_powerUpTo_b3 (mat n n G) most (X, (i : Int)) (tab n w)) (mat n n N, 0) = some (mat n n (fun a b => if a = i then foldN n (fun acc k => capMul most acc (w k) (G k b)) (N a b) else N a b)) := by
  have hx := loop_idx (body := impl_powerUpTo_b3 (mat n n G) most (X, (i : Int)) (tab n w)) n (fun k => (mat n n (fun a b => if a = i then foldN k (fun acc k => capMul most acc (w k) (G k b)) (N a b) else N a b), (k : Int))) (mat n n (fun a b => if a = i then foldN n (fun acc k => capMul most acc (w k) (G k b)) (N a b) else N a b)) (fun k hk => by
    simp only [impl_powerUpTo_b3, tab_len, idxO_tab hk, idxO_mat hk, Option.bind_some, impl_b4 hn hi, impl_powerUpTo_k6, w64_nat (show k < 9223372036854775807 by omega), show ((k : Int) < (n : Int)) from by omega, decide_true, if_true]
    congr 3
    refine mat_ext fun a b _ _ => ?_
    by_cases ha : a = i
    · subst ha; simp [foldN_succ]
    · simp [ha]) (by simp only [impl_powerUpTo_b3, tab_len, Int.lt_irrefl, decide_false, Bool.false_eq_true, if_false])
  simp only [foldN_zero] at hx
  rw [show (fun a b => if a = i then N a b else N a b) = N from by funext a b; split <;> rfl] at hx
  simpa using hx
theorem impl_b2 (hn : n ≤ 8) (F : Nat → Nat → Int) (t : Int) :
    loopO (impl_powerUpTo_b2 (mat n n G) most (mat n n F, t)) (mat n n (fun _ _ => 0), 0) = some (mat n n (powStep n G most F)) := by
  have hx := loop_idx (body := impl_powerUpTo_b2 (mat n n G) most (mat n n F, t)) n (fun i => (mat n n (fun a b => if a < i then powStep n G most F a b else 0), (i : Int))) (mat n n (powStep n G most F)) (fun i hi => by
    simp only [impl_powerUpTo_b2, mat_len, idxO_mat hi, Option.bind_some, impl_b3 hn hi, impl_powerUpTo_k5, w64_nat (show i < 9223372036854775807 by omega), show ((i : Int) < (n : Int)) from by omega, decide_true, if_true]
    congr 3
    refine mat_ext fun a b _ _ => ?_
    by_cases ha : a = i
    · subst ha; simp [powStep]
    · by_cases h2 : a < i
      · simp [ha, h2, show a < i + 1 by omega]
      · simp [ha, h2, show ¬ a < i + 1 by omega]) (by
    simp only [impl_powerUpTo_b2, mat_len, Int.lt_irrefl, decide_false, Bool.false_eq_true, if_false]
    congr 2
    exact mat_ext fun a b ha _ => by simp [ha])
  simpa using hx
theorem impl_b1 (hn : n ≤ 8) (m : Nat) (hm : m ≤ 1048576) : loopO (impl_powerUpTo_b1 (mat n n G) (m : Int) most) (mat n n idM, 0) = some (mat n n (powN n G most m)) := by
  have hx := loop_idx (body := impl_powerUpTo_b1 (mat n n G) (m : Int) most) m (fun t => (mat n n (powN n G most t), (t : Int))) (mat n n (powN n G most m)) (fun t ht => by
    simp only [impl_powerUpTo_b1, mat_len, impl_emptyGraph_eq n (by omega), impl_b2 hn, Option.bind_some, impl_powerUpTo_k4, impl_powerUpTo_k3, w64_nat (show t < 9223372036854775807 by omega), show ((t : Int) < (m : Int)) from by omega, decide_true, if_true]
    rfl) (by simp only [impl_powerUpTo_b1, Int.lt_irrefl, decide_false, Bool.false_eq_true, if_false])
  exact hx
theorem impl_powerUpTo_eq (hn : n ≤ 8) (m : Nat) (hm : m ≤ 1048576) : impl_powerUpTo (mat n n G) (m : Int) most = some (mat n n (powN n G most m)) := by
  have hx := loop_idx (body := impl_powerUpTo_b5 (mat n n fun _ _ => 0)) n (fun i => (mat n n (fun a b => if a < i then idM a b else 0), (i : Int))) (mat n n idM) (fun i hi => by
    simp only [impl_powerUpTo_b5, mat_len, idxO_mat hi, idxO_tab hi, Option.bind_some, w64_nat (show i < 9223372036854775807 by omega), show ((i : Int) < (n : Int)) from by omega, decide_true, if_true, Int.toNat_natCast]
    rw [mat_set2 hi hi]
    congr 3
    refine mat_ext fun a b _ _ => ?_
    by_cases ha : a = i
    · subst ha
      by_cases hb : b = a
      · subst hb; simp [idM]
      · simp [hb, idM, Ne.symm hb]
    · by_cases h2 : a < i
      · simp [ha, h2, show a < i + 1 by omega]
      · simp [ha, h2, show ¬ a < i + 1 by omega]) (by
    simp only [impl_powerUpTo_b5, mat_len, Int.lt_irrefl, decide_false, Bool.false_eq_true, if_false]
    congr 2
    exact mat_ext fun a b ha _ => by simp [ha])
  unfold impl_powerUpTo
  rw [mat_len, impl_emptyGraph_eq n (by omega), Option.bind_some]
  simp only [Nat.not_lt_zero, if_false] at hx
  rw [show (0 : Int) = ((0 : Nat) : Int) from rfl, show (fun (_ _ : Nat) => ((0 : Nat) : Int)) = fun _ _ => (0 : Int) from rfl, hx, Option.bind_some, impl_powerUpTo_k1, impl_b1 hn m hm]
  rfl
end impl
section spec
variable {n : Nat} {G : Nat → Nat → Int}
theorem spec_grCap_eq (v : Int) : spec_grCap v = some (if (1000000001 : Int) < v then 1000000001 else v) := by
  unfold spec_grCap spec_l1Least
  by_cases h : v < 1000000001
  · simp [h, show ¬ (1000000001 : Int) < v by omega]
  · by_cases h2 : (1000000001 : Int) < v
    · simp [h, h2]
    · have : v = 1000000001 := by omega
      subst this; simp
theorem spec_b4 (hn : n ≤ 8) {i j : Nat} (hi : i < n) (hj : j < n) (F : Nat → Nat → Int) (t : Int) (Y : List (List Int)) (Z : List Int) (R : Nat → Int) :
    loopO (spec_grPower_b4 (mat n n G) (t, mat n n F) (Y, (i : Int)) (Z, (j : Int))) (tab n R, 0) = some (tab n (fun b => if b = j then foldN n (fun acc k => capMul 1000000001 acc (F i k) (G k j)) (R b) else R b)) := by
  have hx := loop_idx (body := spec_grPower_b4 (mat n n G) (t, mat n n F) (Y, (i : Int)) (Z, (j : Int))) n (fun l => (tab n (fun b => if b = j then foldN l (fun acc k => capMul 1000000001 acc (F i k) (G k j)) (R b) else R b), (l : Int))) (tab n (fun b => if b = j then foldN n (fun acc k => capMul 1000000001 acc (F i k) (G k j)) (R b) else R b)) (fun l hl => by
    simp only [spec_grPower_b4, mat_len, idxO_tab hj, idxO_mat hi, idxO_mat hl, idxO_tab hl, Option.bind_some, spec_grCap_eq, w64_nat (show l < 9223372036854775807 by omega), show ((l : Int) < (n : Int)) from by omega, decide_true, if_true, Int.toNat_natCast]
    rw [tab_set hj]
    congr 3
    refine tab_ext fun b _ => ?_
    by_cases hb : b = j
    · subst hb; simp only [if_true, foldN_succ]; rfl
    · simp [hb]) (by simp only [spec_grPower_b4, mat_len, Int.lt_irrefl, decide_false, Bool.false_eq_true, if_false])
  simp only [foldN_zero] at hx
  rw [show (fun b => if b = j then R b else R b) = R from by funext b; split <;> rfl] at hx
  simpa using hx
theorem spec_b3 (hn : n ≤ 8) {i : Nat} (hi : i < n) (F : Nat → Nat → Int) (t : Int) (Y : List (List Int)) :
    loopO (spec_grPower_b3 (mat n n G) (t, mat n n F) (Y, (i : Int))) (tab n (fun _ => 0), 0) = some (tab n (powStep n G 1000000001 F i)) := by
  have hx := loop_idx (body := spec_grPower_b3 (mat n n G) (t, mat n n F) (Y, (i : Int))) n (fun j => (tab n (fun b => if b < j then powStep n G 1000000001 F i b else 0), (j : Int))) (tab n (powStep n G 1000000001 F i)) (fun j hj => by
    simp only [spec_grPower_b3, mat_len, spec_b4 hn hi hj, Option.bind_some, spec_grPower_k7, w64_nat (show j < 9223372036854775807 by omega), show ((j : Int) < (n : Int)) from by omega, decide_true, if_true]
    congr 3
    refine tab_ext fun b _ => ?_
    by_cases hb : b = j
    · subst hb; simp [powStep]
    · by_cases h2 : b < j
      · simp [hb, h2, show b < j + 1 by omega]
      · simp [hb, h2, show ¬ b < j + 1 by omega]) (by
    simp only [spec_grPower_b3, mat_len, Int.lt_irrefl, decide_false, Bool.false_eq_true, if_false]
    congr 2
    exact tab_ext fun b hb => by simp [hb])
  simpa using hx
theorem spec_b2 (hn : n ≤ 8) (F : Nat → Nat → Int) (t : Int) : loopO (spec_grPower_b2 (mat n n G) (t, mat n n F)) ([], 0) = some (mat n n (powStep n G 1000000001 F)) := by
  have hx := loop_idx (body := spec_grPower_b2 (mat n n G) (t, mat n n F)) n (fun i => (tab i (fun a => tab n (powStep n G 1000000001 F a)), (i : Int))) (mat n n (powStep n G 1000000001 F)) (fun i hi => by
    simp only [spec_grPower_b2, mat_len, show ((i : Int) < (n : Int)) from by omega, decide_true, if_true]
    rw [guardO_bind_pos (by omega), Int.toNat_natCast, rep_tab, spec_b3 hn hi, Option.bind_some, spec_grPower_k6, guardO_bind_pos (by simp [tab_len]; omega), spec_grPower_k5]
    simp only [w64_nat (show i < 9223372036854775807 by omega)]
    rw [tab_succ i (fun a => tab n (powStep n G 1000000001 F a))]) (by simp only [spec_grPower_b2, mat_len, Int.lt_irrefl, decide_false, Bool.false_eq_true, if_false]; rfl)
  simpa [tab_zero] using hx
theorem spec_b1 (hn : n ≤ 8) (m : Nat) (hm : m ≤ 1048576) : loopO (spec_grPower_b1 (mat n n G)) ((m : Int), mat n n idM) = some (mat n n (powN n G 1000000001 m)) := by
  have hx := loop_idx (body := spec_grPower_b1 (mat n n G)) m (fun t => (((m - t : Nat) : Int), mat n n (powN n G 1000000001 t))) (mat n n (powN n G 1000000001 m)) (fun t ht => by
    simp only [spec_grPower_b1, show (((m - t : Nat) : Int) > 0) from by omega, decide_true, if_true, spec_b2 hn, Option.bind_some, spec_grPower_k4, spec_grPower_k3]
    rw [w64_id (by omega) (by omega), show ((m - t : Nat) : Int) - 1 = ((m - (t + 1) : Nat) : Int) by omega]
    rfl) (by simp [spec_grPower_b1])
  simpa [powN] using hx
theorem spec_grPower_eq (hn : n ≤ 8) (m : Nat) (hm : m ≤ 1048576) : spec_grPower (mat n n G) (m : Int) = some (mat n n (powN n G 1000000001 m)) := by
  have hx := loop_idx (body := spec_grPower_b5 (mat n n G)) n (fun i => (tab i (fun a => tab n (idM a)), (i : Int))) (mat n n idM) (fun i hi => by
    simp only [spec_grPower_b5, mat_len, show ((i : Int) < (n : Int)) from by omega, decide_true, if_true]
    rw [guardO_bind_pos (by omega), guardO_bind_pos (by simp [tab_len]; omega), Int.toNat_natCast, Int.toNat_natCast, rep_tab]
    have e : tab i (fun a => tab n (idM a)) ++ [tab n fun _ => (0 : Int)] = tab (i + 1) (fun a => if a < i then tab n (idM a) else tab n fun _ => 0) := by
      rw [← tab_succ]
      simp only [Nat.lt_irrefl, if_false]
      congr 1
      exact tab_ext fun a ha => by simp [ha]
    rw [e, idxO_tab (Nat.lt_succ_self i), Option.bind_some]
    simp only [Nat.lt_irrefl, if_false, idxO_tab hi, Option.bind_some, w64_nat (show i < 9223372036854775807 by omega)]
    rw [tab_set (Nat.lt_succ_self i), tab_set hi]
    congr 3
    refine tab_ext fun a ha => ?_
    by_cases h1 : a = i
    · subst h1
      simp only [if_true]
      exact tab_ext fun b _ => by simp [idM, eq_comm]
    · simp [h1, show a < i by omega]) (by simp only [spec_grPower_b5, mat_len, Int.lt_irrefl, decide_false, Bool.false_eq_true, if_false]; rfl)
  unfold spec_grPower
  simp only [tab_zero] at hx
  rw [show (0 : Int) = ((0 : Nat) : Int) from rfl, hx, Option.bind_some, spec_grPower_k1, spec_b1 hn m hm]
  rfl
end spec
/-! ### sizes -/
theorem capMul_range {most acc w a : Int} (hm : 0 ≤ most) (hm2 : most ≤ 1000000000000000000) (h1 : 0 ≤ acc) (h2 : acc ≤ most) (h3 : 0 ≤ w) (h4 : w ≤ most) (h5 : 0 ≤ a) (h6 : a ≤ 9) (hs : most ≤ 100000000000000000 ∨ w * a ≤ 8000000000000000000) : 0 ≤ capMul most acc w a ∧ capMul most acc w a ≤ most := by
  have hwa : 0 ≤ w * a := Int.mul_nonneg h3 h5
  have hwa2 : w * a ≤ w * 9 := Int.mul_le_mul_of_nonneg_left h6 h3
  have : w * a ≤ 8000000000000000000 := by rcases hs with h | h <;> omega
  unfold capMul
  rw [w64_id (n := w * a) (by omega) (by omega), w64_id (n := acc + w * a) (by omega) (by omega)]
  split <;> omega
theorem foldN_inv {β : Type} {g : β → Nat → β} {s : β} {n : Nat} (I : β → Prop) (h0 : I s) (hs : ∀ b i, i < n → I b → I (g b i)) : I (foldN n g s) := by
  induction n with
  | zero => exact h0
  | succ n ih => rw [foldN_succ]; exact hs _ n (by omega) (ih fun b i hi => hs b i (by omega))
theorem powN_range {n : Nat} {G : Nat → Nat → Int} {most : Int} (hG : ∀ i j, i < n → j < n → 0 ≤ G i j ∧ G i j ≤ 9) (hm : 1 ≤ most) (hm2 : most ≤ 100000000000000000) : ∀ (m i j : Nat), i < n → j < n → 0 ≤ powN n G most m i j ∧ powN n G most m i j ≤ most
  | 0, i, j, _, _ => by unfold powN idM; split <;> omega
  | m + 1, i, j, hi, hj => by
    show 0 ≤ foldN n _ 0 ∧ foldN n _ 0 ≤ most
    exact foldN_inv (fun x => 0 ≤ x ∧ x ≤ most) ⟨by omega, by omega⟩ fun b k hk hb => by
      have h1 := powN_range hG hm hm2 m i k hi hk
      have h2 := hG k j hk hj
      exact capMul_range (by omega) (by omega) hb.1 hb.2 h1.1 h1.2 h2.1 h2.2 (.inl hm2)
/-- The sum of a list of rows, and what it is when it is cut at a bound. -/
theorem sum_row (xs : List Int) (v : Int) (hv : 0 ≤ v ∧ v ≤ 1000000000000) (hx : ∀ x ∈ xs, 0 ≤ x ∧ x ≤ 1000000001) (hl : xs.length ≤ 8) :
    loopO (impl_TotalWalks_b2 xs) (v, 0) = some (v + xs.sum) := by
  have hb : ∀ i, i ≤ xs.length → 0 ≤ (xs.take i).sum ∧ (xs.take i).sum ≤ 1000000001 * i := by
    intro i
    induction i with
    | zero => simp
    | succ i ih =>
      intro hi
      have h1 := ih (by omega)
      have h2 := hx xs[i] (List.getElem_mem (by omega))
      rw [List.take_add_one, List.sum_append, List.getElem?_eq_getElem (by omega)]
      simp only [Option.toList_some, List.sum_cons, List.sum_nil]
      omega
  have h := loop_idx (body := impl_TotalWalks_b2 xs) xs.length (fun i => (v + (xs.take i).sum, (i : Int))) (v + xs.sum) (fun i hi => by
    have h1 := hb i (by omega)
    have h2 := hb (i + 1) (by omega)
    have h3 : (xs.take (i + 1)).sum = (xs.take i).sum + xs[i] := by
      rw [List.take_add_one, List.sum_append, List.getElem?_eq_getElem hi]; simp
    simp only [impl_TotalWalks_b2, idxO_lt hi, Option.bind_some, w64_nat (show i < 9223372036854775807 by omega), show ((i : Int) < (xs.length : Int)) from by omega, decide_true, if_true]
    rw [w64_id (by omega) (by omega), h3, Int.add_assoc]) (by simp [impl_TotalWalks_b2])
  simpa using h
def capAt (x : Int) : Int := if 1000000001 < x then 1000000001 else x
theorem cap_row (xs : List Int) (v : Int) (hv : 0 ≤ v) (hx : ∀ x ∈ xs, 0 ≤ x ∧ x ≤ 1000000001) (hl : xs.length ≤ 8) :
    loopO (spec_gwTotal_b2 xs) (capAt v, 0) = some (capAt (v + xs.sum)) := by
  have hb : ∀ i, i ≤ xs.length → 0 ≤ (xs.take i).sum := by
    intro i
    induction i with
    | zero => simp
    | succ i ih =>
      intro hi
      have h1 := ih (by omega)
      have h2 := hx xs[i] (List.getElem_mem (by omega))
      rw [List.take_add_one, List.sum_append, List.getElem?_eq_getElem (by omega)]
      simp only [Option.toList_some, List.sum_cons, List.sum_nil]
      omega
  have h := loop_idx (body := spec_gwTotal_b2 xs) xs.length (fun i => (capAt (v + (xs.take i).sum), (i : Int))) (capAt (v + xs.sum)) (fun i hi => by
    have h1 := hb i (by omega)
    have h2 := hx xs[i] (List.getElem_mem hi)
    have h3 : (xs.take (i + 1)).sum = (xs.take i).sum + xs[i] := by
      rw [List.take_add_one, List.sum_append, List.getElem?_eq_getElem hi]; simp
    simp only [spec_gwTotal_b2, idxO_lt hi, Option.bind_some, spec_grCap_eq, w64_nat (show i < 9223372036854775807 by omega), show ((i : Int) < (xs.length : Int)) from by omega, decide_true, if_true]
    rw [h3]
    have h4 : 0 ≤ capAt (v + (xs.take i).sum) ∧ capAt (v + (xs.take i).sum) ≤ 1000000001 := by unfold capAt; split <;> omega
    rw [w64_id (by omega) (by omega)]
    congr 3
    unfold capAt
    (repeat' split) <;> omega) (by simp [spec_gwTotal_b2])
  simpa using h
def total (g : List (List Int)) : Int := (g.map List.sum).sum
theorem sum_nonneg {xs : List Int} (hx : ∀ x ∈ xs, 0 ≤ x ∧ x ≤ 1000000001) : 0 ≤ xs.sum ∧ xs.sum ≤ 1000000001 * xs.length := by
  induction xs with
  | nil => simp
  | cons x xs ih =>
    have h1 := hx x (by simp)
    have h2 := ih fun y hy => hx y (by simp [hy])
    simp only [List.sum_cons, List.length_cons]; omega
theorem total_take {g : List (List Int)} (hx : ∀ row ∈ g, row.length ≤ 8 ∧ ∀ x ∈ row, 0 ≤ x ∧ x ≤ 1000000001) : ∀ i, i ≤ g.length → 0 ≤ total (g.take i) ∧ total (g.take i) ≤ 10000000000 * i := by
  intro i
  induction i with
  | zero => simp [total]
  | succ i ih =>
    intro hi
    have h1 := ih (by omega)
    have h2 := hx g[i] (List.getElem_mem (by omega))
    have h3 := sum_nonneg h2.2
    unfold total at h1 ⊢
    rw [List.take_add_one, List.map_append, List.sum_append, List.getElem?_eq_getElem (by omega)]
    simp only [Option.toList_some, List.map_cons, List.map_nil, List.sum_cons, List.sum_nil]
    omega
theorem total_succ {g : List (List Int)} {i : Nat} (hi : i < g.length) : total (g.take (i + 1)) = total (g.take i) + g[i].sum := by
  unfold total
  rw [List.take_add_one, List.map_append, List.sum_append, List.getElem?_eq_getElem hi]; simp
theorem impl_total (g : List (List Int)) (hl : g.length ≤ 8) (hx : ∀ row ∈ g, row.length ≤ 8 ∧ ∀ x ∈ row, 0 ≤ x ∧ x ≤ 1000000001) : loopO (impl_TotalWalks_b1 g) (0, 0) = some (total g) := by
  have h := loop_idx (body := impl_TotalWalks_b1 g) g.length (fun i => (total (g.take i), (i : Int))) (total g) (fun i hi => by
    have h1 := total_take hx i (by omega)
    have h2 := hx g[i] (List.getElem_mem hi)
    simp only [impl_TotalWalks_b1, idxO_lt hi, Option.bind_some, sum_row g[i] _ ⟨h1.1, by omega⟩ h2.2 h2.1, impl_TotalWalks_k2, w64_nat (show i < 9223372036854775807 by omega), show ((i : Int) < (g.length : Int)) from by omega, decide_true, if_true]
    rw [total_succ hi]) (by simp [impl_TotalWalks_b1])
  exact h
theorem spec_total (g : List (List Int)) (hl : g.length ≤ 8) (hx : ∀ row ∈ g, row.length ≤ 8 ∧ ∀ x ∈ row, 0 ≤ x ∧ x ≤ 1000000001) : loopO (spec_gwTotal_b1 g) (0, 0) = some (capAt (total g)) := by
  have h := loop_idx (body := spec_gwTotal_b1 g) g.length (fun i => (capAt (total (g.take i)), (i : Int))) (capAt (total g)) (fun i hi => by
    have h1 := total_take hx i (by omega)
    have h2 := hx g[i] (List.getElem_mem hi)
    simp only [spec_gwTotal_b1, idxO_lt hi, Option.bind_some, cap_row g[i] _ h1.1 h2.2 h2.1, spec_gwTotal_k2, w64_nat (show i < 9223372036854775807 by omega), show ((i : Int) < (g.length : Int)) from by omega, decide_true, if_true]
    rw [total_succ hi]) (by simp [spec_gwTotal_b1])
  exact h
theorem mat_rows {n : Nat} {F : Nat → Nat → Int} (hn : n ≤ 8) (hF : ∀ i j, i < n → j < n → 0 ≤ F i j ∧ F i j ≤ 1000000001) : ∀ row ∈ mat n n F, row.length ≤ 8 ∧ ∀ x ∈ row, 0 ≤ x ∧ x ≤ 1000000001 := by
  intro row hr
  obtain ⟨i, hi, rfl⟩ := tab_mem.1 hr
  refine ⟨by rw [tab_len]; exact hn, fun x hx => ?_⟩
  obtain ⟨j, hj, rfl⟩ := tab_mem.1 hx
  exact hF i j hi hj
/-- The number of all walks, if it is told. -/
def totalWalks (g : List (List Int)) (m : Int) : Int × Bool :=
  if isGraph g && inB 0 12 m then
    let t := total (mat g.length g.length (powN g.length (fun i j => (g.getD i []).getD j 0) 1000000001 m.toNat))
    if t > 1000000000 then (0, false) else (t, true)
  else (0, false)
theorem mat_self {n : Nat} {G : Nat → Nat → Int} (i j : Nat) (hi : i < n) (hj : j < n) : ((mat n n G).getD i []).getD j 0 = G i j := by
  simp [List.getD, mat, tab_get hi, tab_get hj]
theorem powN_congr {n : Nat} {G G' : Nat → Nat → Int} {most : Int} (h : ∀ i j, i < n → j < n → G i j = G' i j) : ∀ m i j, j < n → powN n G most m i j = powN n G' most m i j
  | 0, _, _, _ => rfl
  | m + 1, i, j, hj => by
    show foldN n _ 0 = foldN n _ 0
    exact foldN_ext fun b k hk => by rw [powN_congr h m i k hk, h k j hk hj]
theorem impl_TotalWalks_eq (g : List (List Int)) (m : Int) (hs : sized g) : impl_TotalWalks g m = some (totalWalks g m) := by
  unfold impl_TotalWalks totalWalks impl_isWalk
  rw [impl_isGraph_eq g hs]
  simp only [Option.bind_some, impl_within_eq]
  cases hg : isGraph g
  · rfl
  · cases hm : inB 0 12 m
    · rfl
    · obtain ⟨n, G, h1, h2, rfl, hG⟩ := isGraph_mat hg
      have hm' := inB_iff.1 hm
      obtain ⟨k, rfl⟩ := Int.eq_ofNat_of_zero_le hm'.1
      have e : mat n n (powN n (fun i j => ((mat n n G).getD i []).getD j 0) 1000000001 k) = mat n n (powN n G 1000000001 k) := mat_ext fun i j _ hj => powN_congr (fun i j hi hj => mat_self i j hi hj) k i j hj
      simp only [if_true, Bool.not_true, Bool.false_eq_true, if_false, Bool.and_self, impl_power, impl_powerUpTo_eq h2 k (by omega), Option.bind_some, mat_len, Int.toNat_natCast, e]
      rw [impl_total _ (by rw [mat_len]; exact h2) (mat_rows h2 fun i j hi hj => powN_range hG (by decide) (by decide) k i j hi hj)]
      simp only [Option.bind_some, impl_TotalWalks_k1]
      by_cases ht : total (mat n n (powN n G 1000000001 k)) > 1000000000 <;> simp [ht]
theorem spec_gwTotal_eq {n : Nat} {G : Nat → Nat → Int} (h2 : n ≤ 8) (hG : ∀ i j, i < n → j < n → 0 ≤ G i j ∧ G i j ≤ 9) (k : Nat) (hk : k ≤ 1048576) : spec_gwTotal (mat n n G) (k : Int) = some (capAt (total (mat n n (powN n G 1000000001 k)))) := by
  unfold spec_gwTotal
  rw [spec_grPower_eq h2 k hk, Option.bind_some, spec_total _ (by rw [mat_len]; exact h2) (mat_rows h2 fun i j hi hj => powN_range hG (by decide) (by decide) k i j hi hj)]
  rfl
theorem spec_TotalWalks_eq (g : List (List Int)) (m : Int) (hs : sized g) : spec_TotalWalks g m = some (totalWalks g m) := by
  unfold spec_TotalWalks totalWalks
  rw [spec_grGood_eq g hs]
  simp only [Option.bind_some, spec_grSteps, spec_l1In_eq]
  cases hg : isGraph g
  · rfl
  · cases hm : inB 0 12 m
    · rfl
    · obtain ⟨n, G, h1, h2, rfl, hG⟩ := isGraph_mat hg
      have hm' := inB_iff.1 hm
      obtain ⟨k, rfl⟩ := Int.eq_ofNat_of_zero_le hm'.1
      have e : mat n n (powN n (fun i j => ((mat n n G).getD i []).getD j 0) 1000000001 k) = mat n n (powN n G 1000000001 k) := mat_ext fun i j _ hj => powN_congr (fun i j hi hj => mat_self i j hi hj) k i j hj
      simp only [if_true, Bool.not_true, Bool.false_eq_true, if_false, Bool.and_self, Option.bind_some, mat_len, Int.toNat_natCast, e, spec_gwTotal_eq h2 hG k (by omega)]
      by_cases ht : total (mat n n (powN n G 1000000001 k)) > 1000000000
      · have : capAt (total (mat n n (powN n G 1000000001 k))) > 1000000000 := by unfold capAt; split <;> omega
        simp [ht, this]
      · have : capAt (total (mat n n (powN n G 1000000001 k))) = total (mat n n (powN n G 1000000001 k)) := by unfold capAt; split <;> omega
        simp [ht, this]
theorem laws_FnExactTotalWalks_eq (g : List (List Int)) (m : Int) (hl : g.length ≤ 9223372036854775807) (hr : ∀ row ∈ g, row.length ≤ 9223372036854775807) : laws_FnExactTotalWalks g m = some true := by
  obtain ⟨v, h1, h2⟩ := laws_szIntSS_eq g hl hr
  unfold laws_FnExactTotalWalks
  rw [h1, Option.bind_some]
  by_cases hv : v < 0
  · simp [hv]
  · have hs := h2 (by omega)
    simp only [hv, decide_false, Bool.false_eq_true, if_false, laws_toIntSS_eq g hs, spec_TotalWalks_eq g m hs, impl_TotalWalks_eq g m hs, laws_eqIntSS_self g hs, Option.bind_some]
    simp
/-! ### digits -/
theorem digits_ends (v : Int) (h : v ≤ 9223372036854775807) (d : Int) : ∃ r, loopO impl_WalkDigits_b1 (v, d) = some r := by
  obtain ⟨y, h1, _⟩ := loop_run (body := impl_WalkDigits_b1) (fun x => x.1 ≤ 9223372036854775807) (fun x => x.1.toNat) (fun _ => True) (fun ⟨a, b⟩ ha => by
    simp only at ha
    by_cases hlt : a > 1
    · left
      have h3 : Int.tdiv a 2 = a / 2 := Int.tdiv_eq_ediv_of_nonneg (by omega)
      refine ⟨(a / 2, w64 (b + 1)), ?_, by simp only []; omega, by simp only []; omega⟩
      simp only [impl_WalkDigits_b1, hlt, decide_true, if_true, h3]
      rw [w64_id (n := a / 2) (by omega) (by omega)]
    · right; exact ⟨b, by simp [impl_WalkDigits_b1, hlt], trivial⟩) (v, d) h
  exact ⟨y, h1⟩
theorem digits_same : spec_WalkDigits_b1 = impl_WalkDigits_b1 := rfl
theorem WalkDigits_same (g : List (List Int)) (m : Int) (hs : sized g) : ∃ r, impl_WalkDigits g m = some r ∧ spec_WalkDigits g m = some r := by
  unfold impl_WalkDigits spec_WalkDigits
  rw [impl_TotalWalks_eq g m hs, spec_grGood_eq g hs]
  simp only [Option.bind_some, spec_grSteps, spec_l1In_eq, totalWalks, digits_same]
  cases hg : isGraph g
  · exact ⟨_, rfl, rfl⟩
  · cases hm : inB 0 12 m
    · exact ⟨_, rfl, rfl⟩
    · obtain ⟨n, G, h1, h2, rfl, hG⟩ := isGraph_mat hg
      have hm' := inB_iff.1 hm
      obtain ⟨k, rfl⟩ := Int.eq_ofNat_of_zero_le hm'.1
      have e : mat n n (powN n (fun i j => ((mat n n G).getD i []).getD j 0) 1000000001 k) = mat n n (powN n G 1000000001 k) := mat_ext fun i j _ hj => powN_congr (fun i j hi hj => mat_self i j hi hj) k i j hj
      have hpos : 0 ≤ total (mat n n (powN n G 1000000001 k)) := by
        have := total_take (mat_rows h2 fun i j hi hj => powN_range hG (by decide) (by decide) k i j hi hj) n (by rw [mat_len]; exact Nat.le_refl _)
        rw [List.take_of_length_le (by rw [mat_len]; exact Nat.le_refl _)] at this
        exact this.1
      simp only [if_true, Bool.not_true, Bool.false_eq_true, if_false, Bool.and_self, Option.bind_some, mat_len, Int.toNat_natCast, e, spec_gwTotal_eq h2 hG k (by omega)]
      by_cases ht : total (mat n n (powN n G 1000000001 k)) > 1000000000
      · have : capAt (total (mat n n (powN n G 1000000001 k))) > 1000000000 := by unfold capAt; split <;> omega
        simp [ht, this]
      · have : capAt (total (mat n n (powN n G 1000000001 k))) = total (mat n n (powN n G 1000000001 k)) := by unfold capAt; split <;> omega
        obtain ⟨r, hr⟩ := digits_ends (total (mat n n (powN n G 1000000001 k))) (by omega) 0
        by_cases hz : total (mat n n (powN n G 1000000001 k)) = 0
        · have hc0 : capAt 0 = 0 := rfl
          simp [hz, hc0]
        · refine ⟨(r, true), ?_, ?_⟩ <;> simp [ht, hz, this, hr, impl_WalkDigits_k1, spec_WalkDigits_k1]
theorem laws_FnExactWalkDigits_eq (g : List (List Int)) (m : Int) (hl : g.length ≤ 9223372036854775807) (hr : ∀ row ∈ g, row.length ≤ 9223372036854775807) : laws_FnExactWalkDigits g m = some true := by
  obtain ⟨v, h1, h2⟩ := laws_szIntSS_eq g hl hr
  unfold laws_FnExactWalkDigits
  rw [h1, Option.bind_some]
  by_cases hv : v < 0
  · simp [hv]
  · have hs := h2 (by omega)
    obtain ⟨r, h3, h4⟩ := WalkDigits_same g m hs
    simp only [hv, decide_false, Bool.false_eq_true, if_false, laws_toIntSS_eq g hs, h3, h4, laws_eqIntSS_self g hs, Option.bind_some]
    simp
end Go.PV

set_option linter.all false
namespace Go.PV
theorem lowest_isRat {n d : Int} (h1 : 0 ≤ n) (h2 : n ≤ 1000000000) (h3 : 1 ≤ d) (h4 : d ≤ 1000000000) : isRat (lowest n d).1 = true := by
  have hg : 0 < Int.gcd n d := Int.gcd_pos_of_ne_zero_right _ (by omega)
  have key : isRat (Int.tdiv n (Int.gcd n d : Int), Int.tdiv d (Int.gcd n d : Int)) = true := by
    obtain ⟨a, rfl⟩ := Int.eq_ofNat_of_zero_le h1
    obtain ⟨b, rfl⟩ := Int.eq_ofNat_of_zero_le (show 0 ≤ d by omega)
    have e : Int.gcd (a : Int) (b : Int) = Nat.gcd a b := rfl
    rw [e] at hg ⊢
    have e1 : Int.tdiv (a : Int) ((Nat.gcd a b : Nat) : Int) = ((a / Nat.gcd a b : Nat) : Int) := by rw [Int.tdiv_eq_ediv_of_nonneg (by omega)]; rfl
    have e2 : Int.tdiv (b : Int) ((Nat.gcd a b : Nat) : Int) = ((b / Nat.gcd a b : Nat) : Int) := by rw [Int.tdiv_eq_ediv_of_nonneg (by omega)]; rfl
    rw [e1, e2, isRat_iff]
    have l1 : a / Nat.gcd a b ≤ a := Nat.div_le_self _ _
    have l2 : b / Nat.gcd a b ≤ b := Nat.div_le_self _ _
    have l3 : 0 < b / Nat.gcd a b := Nat.div_pos (Nat.le_of_dvd (by omega) (Nat.gcd_dvd_right a b)) hg
    have l4 : ((a / Nat.gcd a b : Nat) : Int) ≤ 1000000000 := by omega
    have l5 : ((b / Nat.gcd a b : Nat) : Int) ≤ 1000000000 := by omega
    have l6 : 1 ≤ ((b / Nat.gcd a b : Nat) : Int) := by omega
    have l7 : 0 ≤ ((a / Nat.gcd a b : Nat) : Int) := Int.natCast_nonneg _
    generalize hA : ((a / Nat.gcd a b : Nat) : Int) = A at l4 l7 ⊢
    generalize hB : ((b / Nat.gcd a b : Nat) : Int) = B at l5 l6 ⊢
    refine ⟨l6, l5, by show -1000000000 ≤ A; omega, l4, ?_⟩
    rw [← hA, ← hB]
    exact Nat.coprime_div_gcd_div_gcd hg
  have hdn : ¬ d < 0 := by omega
  unfold lowest
  simp only [if_neg hdn]
  rw [if_pos key]
  exact key
theorem spec_raMake_eq (n d : Int) (h1 : 0 ≤ n) (h2 : n ≤ 1000000000) (h3 : 1 ≤ d) (h4 : d ≤ 1000000000) : spec_raMake n d = some (lowest n d) := by
  have hg : 0 < Int.gcd n d := Int.gcd_pos_of_ne_zero_right _ (by omega)
  have hd0 : (d == 0) = false := by simpa using (show d ≠ 0 by omega)
  have hdn : ¬ d < 0 := by omega
  unfold spec_raMake spec_raMake_k1 lowest
  simp only [hd0, Bool.false_eq_true, if_false, spec_l1Abs_eq n (by omega) (by omega), spec_l1Abs_eq d (by omega) (by omega), Option.bind_some, spec_raCommon_eq (n.natAbs : Int) (d.natAbs : Int) (by omega) (by omega), hdn, decide_false]
  have e : Int.gcd (n.natAbs : Int) (d.natAbs : Int) = Int.gcd n d := rfl
  rw [e, guardO_bind_pos (by omega), tdiv_w64 _ _ (by omega) (by omega) (by omega), tdiv_w64 _ _ (by omega) (by omega) (by omega), spec_raGood_eq, Option.bind_some]
  cases isRat (Int.tdiv n (Int.gcd n d : Int), Int.tdiv d (Int.gcd n d : Int)) <;> simp
theorem cmp_same {a b : Int × Int} (ha : isRat a = true) (hb : isRat b = true) (h : a.1 * b.2 = b.1 * a.2) : a = b := by
  obtain ⟨a1, a2, a3, a4, a5⟩ := isRat_iff.1 ha
  obtain ⟨b1, b2, b3, b4, b5⟩ := isRat_iff.1 hb
  obtain ⟨p, q⟩ := a
  obtain ⟨r, s⟩ := b
  simp only at *
  have hn : p.natAbs * s.natAbs = r.natAbs * q.natAbs := by rw [← Int.natAbs_mul, ← Int.natAbs_mul, h]
  have c1 : Nat.Coprime p.natAbs q.natAbs := a5
  have c2 : Nat.Coprime r.natAbs s.natAbs := b5
  have d1 : s.natAbs ∣ q.natAbs := by
    have : s.natAbs ∣ r.natAbs * q.natAbs := ⟨p.natAbs, by rw [← hn]; exact Nat.mul_comm _ _⟩
    exact c2.symm.dvd_of_dvd_mul_left this
  have d2 : q.natAbs ∣ s.natAbs := by
    have : q.natAbs ∣ p.natAbs * s.natAbs := ⟨r.natAbs, by rw [hn]; exact Nat.mul_comm _ _⟩
    exact c1.symm.dvd_of_dvd_mul_left this
  have hqs : q.natAbs = s.natAbs := Nat.dvd_antisymm d2 d1
  have hq : q = s := by omega
  subst hq
  have : p = r := Int.eq_of_mul_eq_mul_right (by omega) h
  rw [this]

/-! ### products -/
def dotN (G : Nat → Int) (v : Nat → Int) (n : Nat) : Int := foldN n (fun s j => s + G j * v j) 0
theorem dotN_bound {G v : Nat → Int} {n : Nat} (k : Nat) (hk : k ≤ n) (hG : ∀ j, j < n → 0 ≤ G j ∧ G j ≤ 9) (hv : ∀ j, j < n → 1 ≤ v j ∧ v j ≤ 1000000) : 0 ≤ dotN G v k ∧ dotN G v k ≤ 9000000 * k := by
  induction k with
  | zero => simp [dotN, foldN_zero]
  | succ k ih =>
    have := ih (by omega)
    have e : dotN G v (k + 1) = dotN G v k + G k * v k := by simp [dotN, foldN_succ]
    obtain ⟨g1, g2⟩ := hG k (by omega)
    obtain ⟨v1, v2⟩ := hv k (by omega)
    have p1 : 0 ≤ G k * v k := Int.mul_nonneg g1 (by omega)
    have p2 : G k * v k ≤ 9 * 1000000 := Int.mul_le_mul g2 v2 (by omega) (by omega)
    rw [e]
    omega
theorem dotN_step {G v : Nat → Int} {n k : Nat} (hn : n ≤ 8) (hk : k < n) (hG : ∀ j, j < n → 0 ≤ G j ∧ G j ≤ 9) (hv : ∀ j, j < n → 1 ≤ v j ∧ v j ≤ 1000000) : w64 (dotN G v k + w64 (G k * v k)) = dotN G v (k + 1) := by
  have b1 := dotN_bound k (by omega) hG hv
  have e : dotN G v (k + 1) = dotN G v k + G k * v k := by simp [dotN, foldN_succ]
  obtain ⟨g1, g2⟩ := hG k (by omega)
  obtain ⟨v1, v2⟩ := hv k (by omega)
  have p1 : 0 ≤ G k * v k := Int.mul_nonneg g1 (by omega)
  have p2 : G k * v k ≤ 9 * 1000000 := Int.mul_le_mul g2 v2 (by omega) (by omega)
  rw [e, w64_id (n := G k * v k) (by omega) (by omega), w64_id (by omega) (by omega)]
theorem spec_gwTimes_eq {n : Nat} {G : Nat → Nat → Int} {v : Nat → Int} (hn : n ≤ 8) (hG : ∀ i j, i < n → j < n → 0 ≤ G i j ∧ G i j ≤ 9) (hv : ∀ j, j < n → 1 ≤ v j ∧ v j ≤ 1000000) :
    spec_gwTimes (mat n n G) (tab n v) = some (tab n fun i => dotN (G i) v n) := by
  have inner : ∀ i, i < n → loopO (spec_gwTimes_b2 (tab n v) (tab n (G i))) (0, 0) = some (dotN (G i) v n) := fun i hi => by
    have h := loop_idx (body := spec_gwTimes_b2 (tab n v) (tab n (G i))) n (fun j => (dotN (G i) v j, (j : Int))) (dotN (G i) v n) (fun j hj => by
      simp only [spec_gwTimes_b2, tab_len, idxO_tab hj, Option.bind_some, show ((j : Int) < (n : Int)) from by omega, decide_true, if_true, w64_nat (show j < 9223372036854775807 by omega), dotN_step hn hj (fun j hj => hG i j hi hj) hv]) (by simp [spec_gwTimes_b2, tab_len])
    exact h
  have outer := loop_idx (body := spec_gwTimes_b1 (mat n n G) (tab n v)) n (fun i => (tab i fun i => dotN (G i) v n, (i : Int))) (tab n fun i => dotN (G i) v n) (fun i hi => by
    simp only [spec_gwTimes_b1, mat_len, idxO_mat hi, Option.bind_some, show ((i : Int) < (n : Int)) from by omega, decide_true, if_true, inner i hi, spec_gwTimes_k3, spec_gwTimes_k2, w64_nat (show i < 9223372036854775807 by omega)]
    rw [guardO_bind_pos (by simp [tab_len]; omega), tab_succ i fun i => dotN (G i) v n]) (by simp [spec_gwTimes_b1, mat_len])
  unfold spec_gwTimes
  have : loopO (spec_gwTimes_b1 (mat n n G) (tab n v)) ([], 0) = some (tab n fun i => dotN (G i) v n) := outer
  rw [this]
  rfl
theorem impl_times_eq {n : Nat} {G : Nat → Nat → Int} {v : Nat → Int} (hn : n ≤ 8) (hG : ∀ i j, i < n → j < n → 0 ≤ G i j ∧ G i j ≤ 9) (hv : ∀ j, j < n → 1 ≤ v j ∧ v j ≤ 1000000) :
    impl_times (mat n n G) (tab n v) = some (tab n fun i => dotN (G i) v n) := by
  let R : Nat → Nat → Nat → Int := fun i j k => if k < i then dotN (G k) v n else if k = i then dotN (G i) v j else 0
  have inner : ∀ i, i < n → loopO (impl_times_b2 (tab n v) (tab n (R i 0), (i : Int)) (tab n (G i))) (tab n (R i 0), 0) = some (tab n (R i n)) := fun i hi => by
    have h := loop_idx (body := impl_times_b2 (tab n v) (tab n (R i 0), (i : Int)) (tab n (G i))) n (fun j => (tab n (R i j), (j : Int))) (tab n (R i n)) (fun j hj => by
      simp only [impl_times_b2, tab_len, idxO_tab hj, idxO_tab hi, Option.bind_some, show ((j : Int) < (n : Int)) from by omega, decide_true, if_true, w64_nat (show j < 9223372036854775807 by omega), Int.toNat_natCast]
      rw [show R i j i = dotN (G i) v j by simp [R], dotN_step hn hj (fun j hj => hG i j hi hj) hv, tab_set hi]
      congr 3
      refine tab_ext fun k hk => ?_
      by_cases hki : k = i
      · subst hki; simp [R]
      · simp [R, hki]) (by simp [impl_times_b2, tab_len])
    exact h
  have outer := loop_idx (body := impl_times_b1 (mat n n G) (tab n v)) n (fun i => (tab n (R i 0), (i : Int))) (tab n (R n 0)) (fun i hi => by
    simp only [impl_times_b1, mat_len, idxO_mat hi, Option.bind_some, show ((i : Int) < (n : Int)) from by omega, decide_true, if_true, inner i hi, impl_times_k2, w64_nat (show i < 9223372036854775807 by omega)]
    congr 3
    refine tab_ext fun k hk => ?_
    by_cases h1 : k < i
    · simp [R, h1, show k < i + 1 by omega]
    · by_cases h2 : k = i
      · subst h2; simp [R]
      · have h3 : ¬ k < i + 1 := by omega
        by_cases h4 : k = i + 1
        · subst h4; simp [R, dotN, foldN_zero, show ¬ i + 1 < i by omega]
        · simp [R, h1, h2, h3, h4]) (by simp [impl_times_b1, mat_len])
  unfold impl_times
  rw [mat_len, guardO_bind_pos (by omega), Int.toNat_natCast, rep_tab]
  have e : tab n (fun _ => (0 : Int)) = tab n (R 0 0) := tab_ext fun k hk => by
    by_cases h : k = 0
    · subst h; simp [R, dotN, foldN_zero]
    · simp [R, h]
  rw [e]
  have : loopO (impl_times_b1 (mat n n G) (tab n v)) (tab n (R 0 0), 0) = some (tab n (R n 0)) := outer
  rw [this, Option.bind_some]
  simp only [impl_times_k1]
  congr 1
  exact tab_ext fun k hk => by simp [R, hk]
end Go.PV

/-
  Plain laws: sums, products and quotients of fractions, with what is too large told.
  Conditions: none.
-/
set_option linter.all false
namespace Go.PV
abbrev Rt := Int × Int
/-- A fraction, or nothing. -/
def unO : Option Rt → Rt × Bool
  | some r => (r, true)
  | none => ((0, 0), false)
def lowQ (n d : Int) : Option Rt := if (lowest n d).2 = true then some (lowest n d).1 else none
theorem lowest_form (n d : Int) : ∃ x : Rt, lowest n d = if isRat x = true then (x, true) else ((0, 0), false) := ⟨_, rfl⟩
theorem lowest_no {n d : Int} (h : (lowest n d).2 = false) : lowest n d = ((0, 0), false) := by
  obtain ⟨x, e⟩ := lowest_form n d
  rw [e] at h ⊢
  by_cases h2 : isRat x = true
  · rw [if_pos h2] at h; cases h
  · rw [if_neg h2]
theorem lowest_unO (n d : Int) : lowest n d = unO (lowQ n d) := by
  unfold lowQ
  cases h : (lowest n d).2
  · rw [lowest_no h]; rfl
  · have : lowest n d = ((lowest n d).1, (lowest n d).2) := rfl
    rw [this, h]; rfl
theorem lowest_rat {n d : Int} (h : (lowest n d).2 = true) : isRat (lowest n d).1 = true := by
  obtain ⟨x, e⟩ := lowest_form n d
  rw [e] at h ⊢
  by_cases h2 : isRat x = true
  · rw [if_pos h2]; exact h2
  · rw [if_neg h2] at h; cases h
theorem lowQ_rat {n d : Int} {r : Rt} (h : lowQ n d = some r) : isRat r = true := by
  unfold lowQ at h
  split at h
  · rename_i h2; obtain rfl := Option.some.inj h; exact lowest_rat h2
  · cases h
/-- What is not too large for a word. -/
theorem spec_raMake_gen (n d : Int) (hd : d ≠ 0) (h1 : -4000000000000000000 ≤ n) (h2 : n ≤ 4000000000000000000) (h3 : -4000000000000000000 ≤ d) (h4 : d ≤ 4000000000000000000) : spec_raMake n d = some (unO (lowQ n d)) := by
  have hg : 0 < Int.gcd n d := Int.gcd_pos_of_ne_zero_right _ hd
  have hd0 : (d == 0) = false := by simpa using hd
  have hgl : (Int.gcd n d : Int) ≤ 4000000000000000000 := by
    have : Int.gcd n d ≤ d.natAbs := Nat.gcd_le_right _ (by omega)
    omega
  have e : Int.gcd (n.natAbs : Int) (d.natAbs : Int) = Int.gcd n d := rfl
  have key : ∀ g : Int, g ≠ 0 → spec_raMake_k1 n d g = some (if isRat (Int.tdiv n g, Int.tdiv d g) then ((Int.tdiv n g, Int.tdiv d g), true) else ((0, 0), false)) := fun g hg => by
    simp only [spec_raMake_k1, guardO_bind_pos hg, tdiv_w64 n g (by omega) (by omega) hg, tdiv_w64 d g (by omega) (by omega) hg, spec_raGood_eq, Option.bind_some]
    cases isRat (Int.tdiv n g, Int.tdiv d g) <;> rfl
  rw [← lowest_unO]
  unfold spec_raMake lowest
  simp only [hd0, Bool.false_eq_true, if_false, spec_l1Abs_eq n (by omega) (by omega), spec_l1Abs_eq d (by omega) (by omega), Option.bind_some, spec_raCommon_eq (n.natAbs : Int) (d.natAbs : Int) (by omega) (by omega), e]
  by_cases hneg : d < 0
  · simp only [hneg, decide_true, if_true]
    rw [show (0 : Int) - (Int.gcd n d : Int) = -(Int.gcd n d : Int) by omega, w64_id (by omega) (by omega), key _ (by omega)]
  · simp only [hneg, decide_false, Bool.false_eq_true, if_false]
    rw [key _ (by omega)]
def addQ (a b : Rt) : Option Rt := lowQ (a.1 * b.2 + b.1 * a.2) (a.2 * b.2)
def subQ (a b : Rt) : Option Rt := lowQ (a.1 * b.2 - b.1 * a.2) (a.2 * b.2)
def mulQ (a b : Rt) : Option Rt := lowQ (a.1 * b.1) (a.2 * b.2)
def divQ (a b : Rt) : Option Rt := if b.1 = 0 then none else lowQ (a.1 * b.2) (a.2 * b.1)
theorem addQ_rat {a b r : Rt} (h : addQ a b = some r) : isRat r = true := lowQ_rat h
theorem subQ_rat {a b r : Rt} (h : subQ a b = some r) : isRat r = true := lowQ_rat h
theorem mulQ_rat {a b r : Rt} (h : mulQ a b = some r) : isRat r = true := lowQ_rat h
theorem divQ_rat {a b r : Rt} (h : divQ a b = some r) : isRat r = true := by
  unfold divQ at h
  split at h
  · cases h
  · exact lowQ_rat h
structure RB (a b : Rt) : Prop where
  m1 : -1000000000000000000 ≤ a.1 * b.2 ∧ a.1 * b.2 ≤ 1000000000000000000
  m2 : -1000000000000000000 ≤ b.1 * a.2 ∧ b.1 * a.2 ≤ 1000000000000000000
  m3 : -1000000000000000000 ≤ a.2 * b.2 ∧ a.2 * b.2 ≤ 1000000000000000000
  m4 : -1000000000000000000 ≤ a.1 * b.1 ∧ a.1 * b.1 ≤ 1000000000000000000
  ne : a.2 * b.2 ≠ 0
  m5 : -1000000000000000000 ≤ a.2 * b.1 ∧ a.2 * b.1 ≤ 1000000000000000000
theorem rb {a b : Rt} (ha : isRat a = true) (hb : isRat b = true) : RB a b := by
  obtain ⟨a1, a2, a3, a4, _⟩ := isRat_iff.1 ha
  obtain ⟨b1, b2, b3, b4, _⟩ := isRat_iff.1 hb
  exact ⟨mul_le_9 a3 a4 (by omega) b2, mul_le_9 b3 b4 (by omega) a2, mul_le_9 (by omega) a2 (by omega) b2, mul_le_9 a3 a4 b3 b4, Int.mul_ne_zero (by omega) (by omega), mul_le_9 (by omega) a2 b3 b4⟩
section spec
variable {a b : Rt} (ha : isRat a = true) (hb : isRat b = true)
include ha hb
theorem spec_raAdd_eq : spec_raAdd a b = some (unO (addQ a b)) := by
  obtain ⟨m1, m2, m3, m4, ne, m5⟩ := rb ha hb
  unfold spec_raAdd addQ
  rw [w64_id (n := a.1 * b.2) (by omega) (by omega), w64_id (n := b.1 * a.2) (by omega) (by omega), w64_id (n := a.2 * b.2) (by omega) (by omega), w64_id (by omega) (by omega), spec_raMake_gen _ _ ne (by omega) (by omega) (by omega) (by omega)]
  rfl
theorem spec_raSub_eq : spec_raSub a b = some (unO (subQ a b)) := by
  obtain ⟨m1, m2, m3, m4, ne, m5⟩ := rb ha hb
  unfold spec_raSub subQ
  rw [w64_id (n := a.1 * b.2) (by omega) (by omega), w64_id (n := b.1 * a.2) (by omega) (by omega), w64_id (n := a.2 * b.2) (by omega) (by omega), w64_id (by omega) (by omega), spec_raMake_gen _ _ ne (by omega) (by omega) (by omega) (by omega)]
  rfl
theorem spec_raMul_eq : spec_raMul a b = some (unO (mulQ a b)) := by
  obtain ⟨m1, m2, m3, m4, ne, m5⟩ := rb ha hb
  unfold spec_raMul mulQ
  rw [w64_id (n := a.1 * b.1) (by omega) (by omega), w64_id (n := a.2 * b.2) (by omega) (by omega), spec_raMake_gen _ _ ne (by omega) (by omega) (by omega) (by omega)]
  rfl
theorem spec_raDiv_eq : spec_raDiv a b = some (unO (divQ a b)) := by
  obtain ⟨m1, m2, m3, m4, ne, m5⟩ := rb ha hb
  obtain ⟨a1, _⟩ := isRat_iff.1 ha
  unfold spec_raDiv divQ
  by_cases h : b.1 = 0
  · simp [h, unO]
  · have h' : (b.1 == 0) = false := by simpa using h
    simp only [h', Bool.false_eq_true, if_false, h]
    rw [w64_id (n := a.1 * b.2) (by omega) (by omega), w64_id (n := a.2 * b.1) (by omega) (by omega), spec_raMake_gen _ _ (Int.mul_ne_zero (by omega) h) (by omega) (by omega) (by omega) (by omega)]
    rfl
end spec
/-! ### the program's calculator -/
/-- A result is kept, or it is noted that there is none. -/
def cK (bad : Bool) : Option Rt → Rt × Bool
  | some r => (r, bad)
  | none => ((0, 1), true)
theorem impl_keep_eq (bad : Bool) (o : Option Rt) : impl_calc_keep bad (unO o).1 (unO o).2 = some (cK bad o) := by
  cases o <;> simp [impl_calc_keep, unO, cK, impl_zero]
theorem cK_rat {bad : Bool} {o : Option Rt} (h : ∀ r, o = some r → isRat r = true) : isRat (cK bad o).1 = true := by
  cases o with
  | some r => exact h r rfl
  | none => exact (by decide : isRat (0, 1) = true)
theorem isRat_zero : isRat (0, 1) = true := by decide
theorem isRat_one : isRat (1, 1) = true := by decide
theorem isRat_neg {a : Rt} (h : isRat a = true) : isRat (0 - a.1, a.2) = true := by
  obtain ⟨h1, h2, h3, h4, h5⟩ := isRat_iff.1 h
  refine isRat_iff.2 ⟨h1, h2, by show -1000000000 ≤ 0 - a.1; omega, by show 0 - a.1 ≤ _; omega, ?_⟩
  show Int.gcd (0 - a.1) a.2 = 1
  rw [Int.zero_sub, Int.neg_gcd]; exact h5
section impl
variable {a b : Rt} (bad : Bool) (ha : isRat a = true) (hb : isRat b = true)
include ha hb
theorem impl_AddRats_q : impl_AddRats a b = some (unO (addQ a b)) := by
  rw [impl_AddRats_eq, ha, hb]
  simp only [Bool.and_self, if_true]
  rw [lowest_unO]; rfl
theorem impl_SubtractRats_q : impl_SubtractRats a b = some (unO (subQ a b)) := by
  obtain ⟨b1, b2, b3, b4, _⟩ := isRat_iff.1 hb
  unfold impl_SubtractRats impl_negated
  rw [w64_id (by omega) (by omega), Option.bind_some, impl_AddRats_q ha (isRat_neg hb), Option.bind_some]
  congr 2
  unfold addQ subQ
  simp only
  congr 1
  rw [Int.sub_mul]; omega
theorem impl_MultiplyRats_q : impl_MultiplyRats a b = some (unO (mulQ a b)) := by
  obtain ⟨m1, m2, m3, m4, ne, m5⟩ := rb ha hb
  unfold impl_MultiplyRats mulQ
  rw [impl_areRats_eq _ (by simp)]
  simp only [Option.bind_some, List.all_cons, List.all_nil, Bool.and_true, ha, hb, Bool.and_self, Bool.not_true, Bool.false_eq_true, if_false]
  rw [w64_id (n := a.1 * b.1) (by omega) (by omega), w64_id (n := a.2 * b.2) (by omega) (by omega), impl_lowest_eq _ _ ne (by omega) (by omega) (by omega) (by omega), lowest_unO]
  rfl
theorem impl_DivideRats_q : impl_DivideRats a b = some (unO (divQ a b)) := by
  obtain ⟨m1, m2, m3, m4, ne, m5⟩ := rb ha hb
  obtain ⟨a1, _⟩ := isRat_iff.1 ha
  unfold impl_DivideRats divQ
  rw [impl_areRats_eq _ (by simp)]
  simp only [Option.bind_some, List.all_cons, List.all_nil, Bool.and_true, ha, hb, Bool.and_self, Bool.not_true, Bool.false_or]
  by_cases h : b.1 = 0
  · simp [h, unO]
  · have h' : (b.1 == 0) = false := by simpa using h
    simp only [h', Bool.false_eq_true, if_false, h]
    rw [w64_id (n := a.1 * b.2) (by omega) (by omega), w64_id (n := a.2 * b.1) (by omega) (by omega), impl_lowest_eq _ _ (Int.mul_ne_zero (by omega) h) (by omega) (by omega) (by omega) (by omega), lowest_unO]
    rfl
theorem impl_add_eq : impl_calc_add bad a b = some (cK bad (addQ a b)) := by
  unfold impl_calc_add; rw [impl_AddRats_q ha hb, Option.bind_some, impl_keep_eq]; rfl
theorem impl_sub_eq : impl_calc_sub bad a b = some (cK bad (subQ a b)) := by
  unfold impl_calc_sub; rw [impl_SubtractRats_q ha hb, Option.bind_some, impl_keep_eq]; rfl
theorem impl_mul_eq : impl_calc_mul bad a b = some (cK bad (mulQ a b)) := by
  unfold impl_calc_mul; rw [impl_MultiplyRats_q ha hb, Option.bind_some, impl_keep_eq]; rfl
theorem impl_div_eq : impl_calc_div bad a b = some (cK bad (divQ a b)) := by
  unfold impl_calc_div; rw [impl_DivideRats_q ha hb, Option.bind_some, impl_keep_eq]; rfl
end impl
/-! ### distances -/
def absR (r : Rt) : Rt := ((r.1.natAbs : Int), r.2)
def distQ (a b : Rt) : Option Rt := if less a b then subQ b a else subQ a b
theorem isRat_abs {a : Rt} (h : isRat a = true) : isRat (absR a) = true := by
  obtain ⟨h1, h2, h3, h4, h5⟩ := isRat_iff.1 h
  exact isRat_iff.2 ⟨h1, h2, by show -1000000000 ≤ (a.1.natAbs : Int); omega, by show (a.1.natAbs : Int) ≤ _; omega, h5⟩
theorem lowQ_neg {n d : Int} (hd : 0 < d) : lowQ (-n) d = (lowQ n d).map fun r => (-r.1, r.2) := by
  have hn : ¬ d < 0 := by omega
  have e : isRat (Int.tdiv (-n) (Int.gcd n d : Int), Int.tdiv d (Int.gcd n d : Int)) = isRat (Int.tdiv n (Int.gcd n d : Int), Int.tdiv d (Int.gcd n d : Int)) := by
    rw [Int.neg_tdiv]
    cases h : isRat (Int.tdiv n (Int.gcd n d : Int), Int.tdiv d (Int.gcd n d : Int))
    · cases h2 : isRat (-Int.tdiv n (Int.gcd n d : Int), Int.tdiv d (Int.gcd n d : Int))
      · rfl
      · have := isRat_neg h2
        simp only [Int.zero_sub, Int.neg_neg] at this
        rw [h] at this; cases this
    · have := isRat_neg h
      simp only [Int.zero_sub] at this
      exact this
  unfold lowQ lowest
  simp only [Int.neg_gcd, if_neg hn, e]
  cases isRat (Int.tdiv n (Int.gcd n d : Int), Int.tdiv d (Int.gcd n d : Int))
  · rfl
  · simp [Int.neg_tdiv]
theorem lowQ_nonneg {n d : Int} (hd : 0 < d) (hn : 0 ≤ n) {r : Rt} (h : lowQ n d = some r) : 0 ≤ r.1 := by
  have hdn : ¬ d < 0 := by omega
  unfold lowQ lowest at h
  simp only [if_neg hdn] at h
  by_cases h2 : isRat (Int.tdiv n (Int.gcd n d : Int), Int.tdiv d (Int.gcd n d : Int)) = true
  · rw [if_pos h2] at h
    simp only [if_true] at h
    obtain rfl := Option.some.inj h
    exact Int.tdiv_nonneg hn (by omega)
  · rw [if_neg h2] at h; simp at h
theorem den_pos {a b : Rt} (ha : isRat a = true) (hb : isRat b = true) : 0 < a.2 * b.2 := Int.mul_pos (by have := (isRat_iff.1 ha).1; omega) (by have := (isRat_iff.1 hb).1; omega)
/-- The distance is the difference without its sign, whichever is taken from the other. -/
theorem distQ_abs {a b : Rt} (ha : isRat a = true) (hb : isRat b = true) : distQ a b = (subQ b a).map absR := by
  have h0 := den_pos ha hb
  have h0' := den_pos hb ha
  unfold distQ subQ
  cases hl : less a b
  · simp only [Bool.false_eq_true, if_false]
    have hge : ¬ (a.1 * b.2 < b.1 * a.2) := by simpa [less] using hl
    have e : b.1 * a.2 - a.1 * b.2 = -(a.1 * b.2 - b.1 * a.2) := by omega
    rw [e, Int.mul_comm b.2 a.2, lowQ_neg h0]
    cases hq : lowQ (a.1 * b.2 - b.1 * a.2) (a.2 * b.2) with
    | none => rfl
    | some r =>
      have := lowQ_nonneg h0 (by omega) hq
      simp only [Option.map_some, absR, Int.natAbs_neg]
      congr 1
      ext
      · show r.1 = (r.1.natAbs : Int); omega
      · rfl
  · simp only [if_true]
    have hlt : a.1 * b.2 < b.1 * a.2 := by simpa [less] using hl
    cases hq : lowQ (b.1 * a.2 - a.1 * b.2) (b.2 * a.2) with
    | none => rfl
    | some r =>
      have := lowQ_nonneg h0' (by omega) hq
      simp only [Option.map_some, absR]
      congr 1
      ext
      · show r.1 = (r.1.natAbs : Int); omega
      · rfl
theorem distQ_rat {a b r : Rt} (h : distQ a b = some r) : isRat r = true := by
  unfold distQ at h
  split at h <;> exact subQ_rat h
theorem impl_distance_eq {a b : Rt} (bad : Bool) (ha : isRat a = true) (hb : isRat b = true) : impl_calc_distance bad a b = some (cK bad (distQ a b)) := by
  unfold impl_calc_distance impl_calc_distance_k1 distQ
  rw [impl_less_eq a b (tame_of ha) (tame_of hb), Option.bind_some]
  cases less a b
  · simp only [Bool.false_eq_true, if_false]
    rw [impl_sub_eq bad ha hb]; rfl
  · simp only [if_true]
    rw [impl_sub_eq bad hb ha]; rfl
end Go.PV

set_option linter.all false
namespace Go.PV
theorem less_le {a b : Int × Int} (hl : less a b = true) : less b a = false := by
  simp only [less, decide_eq_true_eq, decide_eq_false_iff_not] at hl ⊢
  omega
/-- What the reference asks of a point. -/
theorem spec_bad_eq {α : Type} (p : Pt) (f : Bool → Option α) : ((spec_imCoord p.1).bind fun v16 =>
    (if (!v16) = true then
        some true
      else
        (spec_raGood p.2).bind fun v17 =>
        if (!v17) = true then
          some true
        else
          if (decide (p.2.2 > 100)) = true then
            some true
          else
            (spec_l1In p.2.1 (w64 ((-5) * p.2.2)) (w64 (5 * p.2.2))).bind fun v18 =>
            some (!v18)).bind f) = f (!goodPt p) := by
  unfold goodPt
  simp only [spec_imCoord_eq, spec_raGood_eq, Option.bind_some]
  cases h1 : coord p.1
  · simp
  · cases h : isRat p.2
    · simp
    · obtain ⟨h2, h3, h4, h5, _⟩ := isRat_iff.1 h
      by_cases h6 : p.2.2 > 100
      · have : ¬ p.2.2 ≤ 100 := by omega
        simp [h6, this]
      · have h7 : p.2.2 ≤ 100 := by omega
        rw [w64_id (by omega) (by omega), w64_id (by omega) (by omega)]
        simp [h6, h7, spec_l1In_eq]
theorem spec_liGood_loop (xs : List Pt) (hl : xs.length ≤ 4611686018427387904) :
    ∃ y, loopO (spec_liGood_b1 xs) 0 = some y ∧ ((y = .inl false ∧ ¬ (xs.all goodPt = true ∧ steps xs xs.length)) ∨ (y = .inr () ∧ xs.all goodPt = true ∧ steps xs xs.length)) := by
  refine loop_run (fun x => ∃ i : Nat, x = (i : Int) ∧ i ≤ xs.length ∧ (∀ j p, j < i → xs[j]? = some p → goodPt p = true) ∧ steps xs i) (fun x => xs.length - x.toNat) (fun (y : Bool ⊕ Unit) => (y = .inl false ∧ ¬ (xs.all goodPt = true ∧ steps xs xs.length)) ∨ (y = .inr () ∧ xs.all goodPt = true ∧ steps xs xs.length)) ?_ 0 ⟨0, rfl, by omega, fun j p h => by omega, fun i a b h1 h2 => by omega⟩
  rintro _ ⟨i, rfl, hi, hg, hs⟩
  by_cases hlt : i < xs.length
  · have hx := idxO_lt hlt
    obtain ⟨p, hp⟩ : ∃ p, xs[i]? = some p := ⟨xs[i], List.getElem?_eq_getElem hlt⟩
    unfold spec_liGood_b1
    simp only [show ((i : Int) < (xs.length : Int)) from by omega, decide_true, if_true, idxO_nat, hp, Option.bind_some]
    rw [spec_bad_eq]
    cases hgp : goodPt p
    · refine .inr ⟨.inl false, by simp, .inl ⟨rfl, fun h => ?_⟩⟩
      have := List.all_eq_true.1 h.1 p (List.mem_of_getElem? hp)
      rw [hgp] at this; cases this
    · simp only [Bool.not_true, Bool.false_eq_true, if_false]
      have hg' : ∀ j q, j < i + 1 → xs[j]? = some q → goodPt q = true := fun j q h1 h2 => by
        by_cases hj : j = i
        · subst hj; rw [hp] at h2; cases h2; exact hgp
        · exact hg j q (by omega) h2
      by_cases hi0 : i = 0
      · subst hi0
        refine .inl ⟨((0 + 1 : Nat) : Int), ?_, ⟨0 + 1, rfl, by omega, hg', fun i a b h1 h2 => by omega⟩, by simp; omega⟩
        simp [w64_nat (show 0 < 9223372036854775807 by omega)]
        rfl
      · have hpos : ((i : Int) > 0) := by omega
        have hw : w64 ((i : Int) - 1) = ((i - 1 : Nat) : Int) := by rw [w64_id (by omega) (by omega)]; omega
        have hlt2 : i - 1 < xs.length := by omega
        obtain ⟨q, hq⟩ : ∃ q, xs[i - 1]? = some q := ⟨xs[i - 1], List.getElem?_eq_getElem hlt2⟩
        have hgq := hg (i - 1) q (by omega) hq
        obtain ⟨p1, p2⟩ := goodPt_tame hgp
        obtain ⟨q1, q2⟩ := goodPt_tame hgq
        simp only [hpos, decide_true, if_true, hw, idxO_nat, hq, Option.bind_some, spec_raCmp_eq q.1 p.1 (tame_of q1) (tame_of p1), spec_raCmp_eq q.2 p.2 (tame_of q2) (tame_of p2), cmp_ge, cmp_gt]
        by_cases hst : stepPt q p = true
        · have h5 : less q.1 p.1 = true ∧ less p.2 q.2 = false := by simpa [stepPt] using hst
          refine .inl ⟨((i + 1 : Nat) : Int), ?_, ⟨i + 1, rfl, by omega, hg', steps_succ hs hq hp hst⟩, by simp; omega⟩
          simp [h5.1, h5.2, w64_nat (show i < 9223372036854775807 by omega)]
        · refine .inr ⟨.inl false, ?_, .inl ⟨rfl, fun h => hst (h.2 i q p (by omega) hlt hq hp)⟩⟩
          cases h6 : less q.1 p.1
          · simp
          · cases h7 : less p.2 q.2
            · simp [stepPt, h6, h7] at hst
            · simp
  · have he : i = xs.length := by omega
    subst he
    refine .inr ⟨.inr (), by simp [spec_liGood_b1], .inr ⟨rfl, ?_, hs⟩⟩
    rw [List.all_eq_true]
    intro p hp
    obtain ⟨j, hj, rfl⟩ := List.mem_iff_getElem.1 hp
    exact hg j _ hj (List.getElem?_eq_getElem hj)
theorem impl_isLift_loop (xs : List Pt) (hl : xs.length ≤ 4611686018427387904) (h2 : 1 ≤ xs.length) (hall : xs.all goodPt = true) :
    ∃ y, loopO (impl_isLift_b1 xs) 1 = some y ∧ ((y = .inl false ∧ ¬ steps xs xs.length) ∨ (y = .inr () ∧ steps xs xs.length)) := by
  refine loop_run (fun x => ∃ i : Nat, x = (i : Int) ∧ 1 ≤ i ∧ i ≤ xs.length ∧ steps xs i) (fun x => xs.length - x.toNat) (fun (y : Bool ⊕ Unit) => (y = .inl false ∧ ¬ steps xs xs.length) ∨ (y = .inr () ∧ steps xs xs.length)) ?_ 1 ⟨1, rfl, by omega, by omega, fun i a b h1 h2 => by omega⟩
  rintro _ ⟨i, rfl, hi0, hi, hs⟩
  by_cases hlt : i < xs.length
  · obtain ⟨p, hp⟩ : ∃ p, xs[i]? = some p := ⟨xs[i], List.getElem?_eq_getElem hlt⟩
    have hgp := List.all_eq_true.1 hall p (List.mem_of_getElem? hp)
    have hw : w64 ((i : Int) - 1) = ((i - 1 : Nat) : Int) := by rw [w64_id (by omega) (by omega)]; omega
    have hlt2 : i - 1 < xs.length := by omega
    obtain ⟨q, hq⟩ : ∃ q, xs[i - 1]? = some q := ⟨xs[i - 1], List.getElem?_eq_getElem hlt2⟩
    have hgq := List.all_eq_true.1 hall q (List.mem_of_getElem? hq)
    obtain ⟨p1, p2⟩ := goodPt_tame hgp
    obtain ⟨q1, q2⟩ := goodPt_tame hgq
    unfold impl_isLift_b1
    simp only [show ((i : Int) < (xs.length : Int)) from by omega, decide_true, if_true, hw, idxO_nat, hp, hq, Option.bind_some, impl_less_eq q.1 p.1 (tame_of q1) (tame_of p1), impl_less_eq p.2 q.2 (tame_of p2) (tame_of q2)]
    by_cases hst : stepPt q p = true
    · have h5 : less q.1 p.1 = true ∧ less p.2 q.2 = false := by simpa [stepPt] using hst
      refine .inl ⟨((i + 1 : Nat) : Int), ?_, ⟨i + 1, rfl, by omega, by omega, steps_succ hs hq hp hst⟩, by simp; omega⟩
      simp [h5.1, h5.2, w64_nat (show i < 9223372036854775807 by omega)]
    · refine .inr ⟨.inl false, ?_, .inl ⟨rfl, fun h => hst (h i q p (by omega) hlt hq hp)⟩⟩
      cases h6 : less q.1 p.1
      · simp
      · cases h7 : less p.2 q.2
        · simp [stepPt, h6, h7] at hst
        · simp
  · have he : i = xs.length := by omega
    subst he
    exact .inr ⟨.inr (), by simp [impl_isLift_b1], .inr ⟨rfl, hs⟩⟩

theorem zero_iff {r : Int × Int} (h : isRat r = true) : (r.1 * 1 == 0 * r.2) = (r == (0, 1)) := by
  obtain ⟨h1, h2, h3, h4, h5⟩ := isRat_iff.1 h
  obtain ⟨n, d⟩ := r
  simp only [Int.mul_one, Int.zero_mul]
  by_cases hn : n = 0
  · subst hn
    have h6 : d.natAbs = 1 := by simpa using h5
    have h7 : d = 1 := by omega
    subst h7; rfl
  · have e1 : (n == 0) = false := by simpa using hn
    have e2 : ((n, d) == ((0, 1) : Int × Int)) = false := by simp [hn]
    rw [e1, e2]
theorem one_iff {r : Int × Int} (h : isRat r = true) : (r.1 * 1 == 1 * r.2) = (r == (1, 1)) := by
  obtain ⟨h1, h2, h3, h4, h5⟩ := isRat_iff.1 h
  obtain ⟨n, d⟩ := r
  simp only [Int.mul_one, Int.one_mul]
  by_cases hn : n = d
  · subst hn
    have h6 : n.natAbs = 1 := by simpa using h5
    have h7 : n = 1 := by omega
    subst h7; rfl
  · by_cases h6 : n = 1
    · subst h6; have : ¬ d = 1 := fun e => hn e.symm
      have e1 : ((1 : Int) == d) = false := by simpa using hn
      have e2 : (((1 : Int), d) == ((1, 1) : Int × Int)) = false := by simp [this]
      rw [e1, e2]
    · have e1 : (n == d) = false := by simpa using hn
      have e2 : ((n, d) == ((1, 1) : Int × Int)) = false := by simp [h6]
      rw [e1, e2]
theorem pair_beq (a b : Int × Int) : ((a.1 == b.1) && (a.2 == b.2)) = (a == b) := by
  obtain ⟨a1, a2⟩ := a; obtain ⟨b1, b2⟩ := b; rfl
theorem ends_aux (xs : List Pt) (hl : 2 ≤ xs.length) (hm : xs.length ≤ 12) (hall : xs.all goodPt = true) : spec_liGood_k1 xs () = some (ends xs) ∧ impl_isLift_k1 xs () = some (ends xs) := by
  have hlt : 0 < xs.length := by omega
  have hlt2 : xs.length - 1 < xs.length := by omega
  obtain ⟨a, ha⟩ : ∃ a, xs[0]? = some a := ⟨xs[0], List.getElem?_eq_getElem hlt⟩
  obtain ⟨b, hb⟩ : ∃ b, xs[xs.length - 1]? = some b := ⟨xs[xs.length - 1], List.getElem?_eq_getElem hlt2⟩
  have hw : w64 ((xs.length : Int) - 1) = ((xs.length - 1 : Nat) : Int) := by rw [w64_id (by omega) (by omega)]; omega
  have hga := goodPt_tame (List.all_eq_true.1 hall a (List.mem_of_getElem? ha))
  have hgb := goodPt_tame (List.all_eq_true.1 hall b (List.mem_of_getElem? hb))
  obtain ⟨h2, h3, h4, h5, _⟩ := isRat_iff.1 hga.2
  have t0 : tame (0, 1) := ⟨by decide, by decide, by decide, by decide⟩
  have t1 : tame (1, 1) := ⟨by decide, by decide, by decide, by decide⟩
  have z0 : idxO xs 0 = some a := by rw [show (0 : Int) = ((0 : Nat) : Int) from rfl, idxO_nat, ha]
  have e1 : w64 (1 * a.2.2) = a.2.2 := by rw [w64_id (by omega) (by omega)]; omega
  have e2 : w64 (a.2.1 + a.2.2) = a.2.1 + a.2.2 := w64_id (by omega) (by omega)
  unfold spec_liGood_k1 impl_isLift_k1 ends
  simp only [z0, hw, idxO_nat, ha, hb, Option.bind_some, spec_raInt, impl_zero, impl_oneRat, spec_liPlus, e1, e2, spec_raCmp_eq a.1 (0, 1) (tame_of hga.1) t0, spec_raCmp_eq b.1 (1, 1) (tame_of hgb.1) t1, cmp_zero, zero_iff hga.1, one_iff hgb.1, pair_beq a.1 (0, 1), pair_beq b.1 (1, 1), pair_beq b.2 (a.2.1 + a.2.2, a.2.2)]
  constructor <;> cases (a.1 == (0, 1)) <;> cases (b.1 == (1, 1)) <;> simp
theorem spec_liGood_eq (xs : List Pt) (hl : xs.length ≤ 4611686018427387904) : spec_liGood xs = some (isLift xs) := by
  unfold spec_liGood isLift
  rw [spec_l1In_eq, Option.bind_some]
  cases h : inB 2 12 xs.length
  · simp
  · obtain ⟨h1, h2⟩ := inB_iff.1 h
    obtain ⟨y, h3, h4⟩ := spec_liGood_loop xs hl
    simp only [Bool.not_true, Bool.false_eq_true, if_false, h3, Option.bind_some, Bool.true_and]
    rcases h4 with ⟨rfl, h4⟩ | ⟨rfl, h4⟩
    · have hd : ∀ {p : Prop} (inst : Decidable p), ¬ p → decide p = false := fun _ h => decide_eq_false h
      rw [hd _ h4]; simp
    · simp only [Sum.elim_inr, (ends_aux xs (by omega) (by omega) h4.1).1, h4, and_self, decide_true, Bool.true_and]
theorem impl_isLift_eq (xs : List Pt) (hl : xs.length ≤ 4611686018427387904) : impl_isLift xs = some (isLift xs) := by
  unfold impl_isLift isLift
  rw [impl_within_eq, Option.bind_some]
  cases h : inB 2 12 xs.length
  · simp
  · obtain ⟨h1, h2⟩ := inB_iff.1 h
    rw [slices_ContainsFunc_Limpl_Point_impl_Point_eq xs (fun x0 => impl_isLift_1 x0) _ impl_isLift_1_eq hl]
    cases hall : xs.all goodPt
    · have : (xs.any fun p => !goodPt p) = true := by rw [List.any_eq_not_all_not]; simp [hall]
      simp [this]
    · have hany : (xs.any fun p => !goodPt p) = false := by rw [List.any_eq_not_all_not]; simp [hall]
      obtain ⟨y, h3, h4⟩ := impl_isLift_loop xs hl (by omega) hall
      simp only [Bool.not_true, Bool.false_eq_true, if_false, hany, h3, Option.bind_some, Bool.true_and]
      rcases h4 with ⟨rfl, h4⟩ | ⟨rfl, h4⟩
      · have hd : ∀ {p : Prop} (inst : Decidable p), ¬ p → decide p = false := fun _ h => decide_eq_false h
        rw [hd _ (fun h => h4 h.2)]; simp
      · simp only [Sum.elim_inr, (ends_aux xs (by omega) (by omega) hall).2, h4, and_self, decide_true, Bool.true_and]
theorem laws_eqLift_self (xs : List Pt) (hl : xs.length ≤ 4611686018427387904) : laws_eqLift xs xs = some true := by
  simp [laws_eqLift, laws_eqPointS_self xs hl]
theorem laws_toLift_eq (xs : List Pt) (hl : xs.length ≤ 1099511627776) : laws_toLift xs = some xs := by simp [laws_toLift, laws_toPointS_eq xs hl]
theorem laws_szLift_eq (xs : List Pt) (hl : xs.length ≤ 9223372036854775807) : ∃ v, laws_szLift xs 1048576 = some v ∧ (¬ v < 0 → xs.length ≤ 1048576) := by
  unfold laws_szLift
  rw [show (1048576 : Int) = ((1048576 : Nat) : Int) from rfl, laws_szPointS_eq xs 1048576 (by omega) hl, Option.bind_some]
  by_cases h : 1048576 < xs.length
  · exact ⟨-1, by simp [h], by omega⟩
  · refine ⟨((1048576 : Nat) : Int) - xs.length, ?_, by omega⟩
    have : ¬ ((1048576 : Nat) : Int) - xs.length < 0 := by omega
    simp only [h, if_false]
    simp only [this, decide_false, Bool.false_eq_true, if_false]
theorem laws_FnExactIsLift_eq (xs : List Pt) (hl : xs.length ≤ 9223372036854775807) : laws_FnExactIsLift xs = some true := by
  obtain ⟨v, h1, h2⟩ := laws_szLift_eq xs hl
  unfold laws_FnExactIsLift
  rw [h1, Option.bind_some]
  by_cases h : v < 0
  · simp [h]
  · have hm := h2 h
    simp only [h, decide_false, Bool.false_eq_true, if_false, laws_toLift_eq xs (by omega), spec_IsLift, impl_IsLift, spec_liGood_eq xs (by omega), impl_isLift_eq xs (by omega), laws_eqLift_self xs (by omega), Option.bind_some]
    simp
end Go.PV

/-
  Plain laws: maps of the interval.
  Conditions: none.
-/
set_option linter.all false
namespace Go.PV
section
variable {α β : Type}
/-- A loop that appends, one by one. -/
theorem loop_tab {X Y : Type} {body : X → Option (X ⊕ Y)} (n : Nat) (S : List β → Nat → X) (f : Nat → β) (y : Y) (h1 : ∀ i, i < n → body (S (tab i f) i) = some (.inl (S (tab i f ++ [f i]) (i + 1)))) (h2 : body (S (tab n f) n) = some (.inr y)) : loopO body (S [] 0) = some y := by
  have := loop_idx (body := body) n (fun i => S (tab i f) i) y (fun i hi => by rw [h1 i hi, tab_succ]) h2
  rw [tab_zero] at this
  exact this
theorem tab_append_len (i : Nat) (f : Nat → β) (x : β) (h : i ≤ 1048576) : (tab i f).length + [x].length ≤ 1099511627776 := by rw [tab_len]; simp; omega
end
/-! ### what is a map -/
def isMapT (n : Nat) (p : Nat → Pt) : Prop := (∀ i, i < n → coord (p i).1 = true ∧ coord (p i).2 = true) ∧ (∀ i, 0 < i → i < n → less (p (i - 1)).1 (p i).1 = true) ∧ (p 0).1 = (0, 1) ∧ (p (n - 1)).1 = (1, 1)
theorem w64_pred {i : Nat} (h : 0 < i) (h2 : i < 4611686018427387904) : w64 ((i : Int) - 1) = ((i - 1 : Nat) : Int) := by rw [w64_id (by omega) (by omega)]; omega
theorem coord_tame {r : Rt} (h : coord r = true) : tame r := tame_of (coord_rat h)
theorem idxO_tab0 {α : Type} {n : Nat} {p : Nat → α} (h : 0 < n) : idxO (tab n p) 0 = some (p 0) := idxO_tab (n := n) (f := p) (i := 0) h
theorem spec_imGood_tab (n : Nat) (p : Nat → Pt) (h2 : 2 ≤ n) (hn : n ≤ 12) : ∃ c, spec_imGood (tab n p) = some c ∧ (c = true ↔ isMapT n p) := by
  obtain ⟨y, h3, h4⟩ := loop_run (body := spec_imGood_b1 (tab n p)) (fun x => ∃ i : Nat, x = (i : Int) ∧ i ≤ n ∧ (∀ j, j < i → coord (p j).1 = true ∧ coord (p j).2 = true) ∧ (∀ j, 0 < j → j < i → less (p (j - 1)).1 (p j).1 = true)) (fun x => n - x.toNat)
    (fun y => (y = .inl false ∧ ¬ isMapT n p) ∨ (y = .inr () ∧ (∀ j, j < n → coord (p j).1 = true ∧ coord (p j).2 = true) ∧ (∀ j, 0 < j → j < n → less (p (j - 1)).1 (p j).1 = true))) (fun x ⟨i, e, hi, hc, hl⟩ => by
      subst e
      by_cases hlt : i < n
      · simp only [spec_imGood_b1, tab_len, idxO_tab hlt, show ((i : Int) < (n : Int)) from by omega, decide_true, if_true, Option.bind_some, spec_imCoord_eq]
        cases h5 : coord (p i).1
        · right; exact ⟨.inl false, by simp, .inl ⟨rfl, fun h => by have := (h.1 i hlt).1; rw [h5] at this; cases this⟩⟩
        · cases h6 : coord (p i).2
          · right; exact ⟨.inl false, by simp, .inl ⟨rfl, fun h => by have := (h.1 i hlt).2; rw [h6] at this; cases this⟩⟩
          · have hc' : ∀ j, j < i + 1 → coord (p j).1 = true ∧ coord (p j).2 = true := fun j hj => by
              by_cases hji : j < i
              · exact hc j hji
              · have : j = i := by omega
                subst this; exact ⟨h5, h6⟩
            by_cases hi0 : i = 0
            · left
              subst hi0
              exact ⟨((1 : Nat) : Int), by simp [w64_id], ⟨1, rfl, by omega, hc', fun j h1 h2 => by omega⟩, by simp; omega⟩
            · have hlt2 : i - 1 < n := by omega
              have hpos : ((i : Int) > 0) := by omega
              have ht1 := coord_tame (hc (i - 1) (by omega)).1
              simp only [hpos, decide_true, if_true, Bool.not_true, Bool.false_eq_true, if_false, w64_pred (show 0 < i by omega) (by omega), idxO_tab hlt2, Option.bind_some, spec_raCmp_eq _ _ ht1 (coord_tame h5), cmp_ge]
              cases h7 : less (p (i - 1)).1 (p i).1
              · right; exact ⟨.inl false, by simp, .inl ⟨rfl, fun h => by have := h.2.1 i (by omega) hlt; rw [h7] at this; cases this⟩⟩
              · left
                refine ⟨((i + 1 : Nat) : Int), by simp [w64_nat (show i < 9223372036854775807 by omega)], ⟨i + 1, rfl, hlt, hc', fun j h1 h2 => ?_⟩, by simp; omega⟩
                by_cases hji : j < i
                · exact hl j h1 hji
                · have : j = i := by omega
                  subst this; exact h7
      · have : i = n := by omega
        subst this
        right
        exact ⟨.inr (), by simp [spec_imGood_b1, tab_len], .inr ⟨rfl, hc, hl⟩⟩) 0 ⟨0, rfl, by omega, fun j h => by omega, fun j _ h => by omega⟩
  have hin : inB 2 12 ((tab n p).length : Int) = true := by rw [tab_len, inB_iff]; omega
  unfold spec_imGood
  rw [spec_l1In_eq, Option.bind_some, hin]
  rw [h3]
  rcases h4 with ⟨rfl, h4⟩ | ⟨rfl, h4, h5⟩
  · exact ⟨false, by simp, by simp [h4]⟩
  · have hc0 := (h4 0 (by omega)).1
    have hc1 := (h4 (n - 1) (by omega)).1
    have hw : w64 ((n : Int) - 1) = ((n - 1 : Nat) : Int) := w64_pred (by omega) (by omega)
    have t0 : tame (0, 1) := ⟨by decide, by decide, by decide, by decide⟩
    have t1 : tame (1, 1) := ⟨by decide, by decide, by decide, by decide⟩
    simp only [Bool.not_true, Bool.false_eq_true, if_false, Option.bind_some, Sum.elim_inr, spec_imGood_k1, idxO_tab0 (show 0 < n by omega), spec_raInt, tab_len, hw, idxO_tab (show n - 1 < n by omega), spec_raCmp_eq _ _ (coord_tame hc0) t0, spec_raCmp_eq _ _ (coord_tame hc1) t1, cmp_zero, zero_iff (coord_rat hc0), one_iff (coord_rat hc1)]
    refine ⟨((p 0).1 == (0, 1)) && ((p (n - 1)).1 == (1, 1)), ?_, ?_⟩
    · cases ((p 0).1 == ((0, 1) : Rt)) <;> simp
    · simp only [Bool.and_eq_true, beq_iff_eq]
      exact ⟨fun h => ⟨h4, h5, h.1, h.2⟩, fun h => ⟨h.2.2.1, h.2.2.2⟩⟩
theorem impl_isMap_1_eq (p : Pt) : impl_isMap_1 p = some (!(coord p.1 && coord p.2)) := by
  unfold impl_isMap_1
  simp only [impl_isCoord_eq, Option.bind_some]
  cases coord p.1 <;> cases coord p.2 <;> rfl
theorem impl_xsOf_tab (n : Nat) (p : Nat → Pt) (hn : n ≤ 1048576) : impl_xsOf (tab n p) = some (tab n fun i => (p i).1) := by
  have hx := loop_tab (body := impl_xsOf_b1 (tab n p)) n (fun l i => (l, (i : Int))) (fun i => (p i).1) (tab n fun i => (p i).1) (fun i hi => by
    simp only [impl_xsOf_b1, tab_len, idxO_tab hi, show ((i : Int) < (n : Int)) from by omega, decide_true, if_true, Option.bind_some, guardO_bind_pos (tab_append_len i (fun i => (p i).1) (p i).1 (by omega)), w64_nat (show i < 9223372036854775807 by omega)]
    rw [guardO_bind_pos (by simp; omega)]) (by simp [impl_xsOf_b1, tab_len])
  unfold impl_xsOf
  rw [show (0 : Int) = ((0 : Nat) : Int) from rfl, hx]; rfl
theorem impl_isRising_tab (n : Nat) (r : Nat → Rt) (hn : n ≤ 1048576) (h1 : 1 ≤ n) (hr : ∀ i, i < n → isRat (r i) = true) : ∃ c, impl_isRising (tab n r) = some c ∧ (c = true ↔ ∀ i, 0 < i → i < n → less (r (i - 1)) (r i) = true) := by
  obtain ⟨y, h3, h4⟩ := loop_run (body := impl_isRising_b1 (tab n r)) (fun x => ∃ i : Nat, x = (i : Int) ∧ 1 ≤ i ∧ i ≤ n ∧ (∀ j, 0 < j → j < i → less (r (j - 1)) (r j) = true)) (fun x => n - x.toNat)
    (fun y => (y = .inl false ∧ ¬ ∀ i, 0 < i → i < n → less (r (i - 1)) (r i) = true) ∨ (y = .inr () ∧ ∀ i, 0 < i → i < n → less (r (i - 1)) (r i) = true)) (fun x ⟨i, e, hi0, hi, hl⟩ => by
      subst e
      by_cases hlt : i < n
      · simp only [impl_isRising_b1, tab_len, idxO_tab hlt, w64_pred (show 0 < i by omega) (by omega), idxO_tab (show i - 1 < n by omega), show ((i : Int) < (n : Int)) from by omega, decide_true, if_true, Option.bind_some, impl_less_eq _ _ (tame_of (hr (i - 1) (by omega))) (tame_of (hr i hlt))]
        cases h7 : less (r (i - 1)) (r i)
        · right; exact ⟨.inl false, by simp, .inl ⟨rfl, fun h => by have := h i (by omega) hlt; rw [h7] at this; cases this⟩⟩
        · left
          refine ⟨((i + 1 : Nat) : Int), by simp [w64_nat (show i < 9223372036854775807 by omega)], ⟨i + 1, rfl, by omega, hlt, fun j h1 h2 => ?_⟩, by simp; omega⟩
          by_cases hji : j < i
          · exact hl j h1 hji
          · have : j = i := by omega
            subst this; exact h7
      · have : i = n := by omega
        subst this
        right
        exact ⟨.inr (), by simp [impl_isRising_b1, tab_len], .inr ⟨rfl, hl⟩⟩) 1 ⟨1, rfl, by omega, by omega, fun j _ h => by omega⟩
  unfold impl_isRising
  rw [h3]
  rcases h4 with ⟨rfl, h4⟩ | ⟨rfl, h4⟩
  · exact ⟨false, by simp, by simp [h4]⟩
  · exact ⟨true, by simp [impl_isRising_k1], fun _ => h4, fun _ => rfl⟩
theorem impl_isMap_tab (n : Nat) (p : Nat → Pt) (h2 : 2 ≤ n) (hn : n ≤ 12) : ∃ c, impl_isMap (tab n p) = some c ∧ (c = true ↔ isMapT n p) := by
  have hin : inB 2 12 ((tab n p).length : Int) = true := by rw [tab_len, inB_iff]; omega
  unfold impl_isMap
  rw [impl_within_eq, Option.bind_some, hin, slices_ContainsFunc_Limpl_Point_impl_Point_eq (tab n p) (fun x0 => impl_isMap_1 x0) _ impl_isMap_1_eq (by rw [tab_len]; omega)]
  simp only [Bool.not_true, Bool.false_eq_true, if_false, Option.bind_some]
  by_cases hc : ∀ i, i < n → coord (p i).1 = true ∧ coord (p i).2 = true
  · have hany : ((tab n p).any fun q => !(coord q.1 && coord q.2)) = false := by
      rw [List.any_eq_false]
      intro q hq
      obtain ⟨i, hi, rfl⟩ := tab_mem.1 hq
      simp [(hc i hi).1, (hc i hi).2]
    obtain ⟨c, h3, h4⟩ := impl_isRising_tab n (fun i => (p i).1) (by omega) (by omega) (fun i hi => coord_rat (hc i hi).1)
    have hw : w64 ((n : Int) - 1) = ((n - 1 : Nat) : Int) := w64_pred (by omega) (by omega)
    simp only [hany, Bool.false_eq_true, if_false, idxO_tab0 (show 0 < n by omega), impl_zero, impl_oneRat, Option.bind_some, tab_len, hw, idxO_tab (show n - 1 < n by omega), impl_xsOf_tab n p (by omega), h3, pair_beq (p 0).1 (0, 1), pair_beq (p (n - 1)).1 (1, 1)]
    refine ⟨((p 0).1 == (0, 1)) && (((p (n - 1)).1 == (1, 1)) && c), ?_, ?_⟩
    · cases ((p 0).1 == ((0, 1) : Rt)) <;> cases ((p (n - 1)).1 == ((1, 1) : Rt)) <;> simp
    · simp only [Bool.and_eq_true, beq_iff_eq, h4]
      exact ⟨fun h => ⟨hc, h.2.2, h.1, h.2.1⟩, fun h => ⟨h.2.2.1, h.2.2.2, h.2.1⟩⟩
  · have hany : ((tab n p).any fun q => !(coord q.1 && coord q.2)) = true := by
      refine Classical.byContradiction fun hno => hc fun i hi => ?_
      have : ((tab n p).any fun q => !(coord q.1 && coord q.2)) = false := by simpa using hno
      have := List.any_eq_false.1 this (p i) (tab_mem.2 ⟨i, hi, rfl⟩)
      simpa using this
    exact ⟨false, by rw [hany]; rfl, ⟨fun h => (by cases h), fun h => absurd h.1 hc⟩⟩
/-- A list is a table; the two sides agree on which are maps. -/
theorem both_isMap (f : List Pt) (hl : f.length ≤ 4611686018427387904) : ∃ c, spec_imGood f = some c ∧ impl_isMap f = some c ∧ (c = true → ∃ n p, f = tab n p ∧ 2 ≤ n ∧ n ≤ 12 ∧ isMapT n p) := by
  cases h : inB 2 12 (f.length : Int)
  · exact ⟨false, by simp [spec_imGood, spec_l1In_eq, h], by simp [impl_isMap, impl_within_eq, h], by simp⟩
  · have hb := inB_iff.1 h
    have e : f = tab f.length (fun i => f.getD i ((0, 0), (0, 0))) := tab_eta f
    obtain ⟨c, h1, h2⟩ := spec_imGood_tab f.length (fun i => f.getD i ((0, 0), (0, 0))) (by omega) (by omega)
    obtain ⟨d, h3, h4⟩ := impl_isMap_tab f.length (fun i => f.getD i ((0, 0), (0, 0))) (by omega) (by omega)
    rw [← e] at h1 h3
    have hcd : d = c := by
      have h5 : d = true ↔ c = true := h4.trans h2.symm
      cases c <;> cases d
      · rfl
      · have := h5.1 rfl; cases this
      · have := h5.2 rfl; cases this
      · rfl
    subst hcd
    exact ⟨d, h1, h3, fun hd => ⟨f.length, _, e, by omega, by omega, h2.1 hd⟩⟩
end Go.PV

/-
  Plain laws: the variation of a map.
  Conditions: none.
-/
set_option linter.all false
namespace Go.PV
/-- The sum of the distances of the first k + 1 fractions. -/
def sumD (r : Nat → Rt) : Nat → Option Rt
  | 0 => some (0, 1)
  | k + 1 => (sumD r k).bind fun s => (distQ (r k) (r (k + 1))).bind fun d => addQ s d
theorem sumD_rat {r : Nat → Rt} : ∀ k s, sumD r k = some s → isRat s = true
  | 0, s, h => by obtain rfl := Option.some.inj h; decide
  | k + 1, s, h => by
    simp only [sumD] at h
    obtain ⟨s', h1, h2⟩ := Option.bind_eq_some_iff.1 h
    obtain ⟨d, h3, h4⟩ := Option.bind_eq_some_iff.1 h2
    exact addQ_rat h4
theorem sumD_none {r : Nat → Rt} {k m : Nat} (h : sumD r k = none) (hm : k ≤ m) : sumD r m = none := by
  induction m with
  | zero => have : k = 0 := by omega
            subst this; exact h
  | succ m ih =>
    by_cases hk : k = m + 1
    · subst hk; exact h
    · simp [sumD, ih (by omega)]
theorem impl_variation_eq (n : Nat) (r : Nat → Rt) (h1 : 1 ≤ n) (hn : n ≤ 1048576) (hr : ∀ i, i < n → isRat (r i) = true) : impl_variation (tab n r) = some (unO (sumD r (n - 1))) := by
  obtain ⟨y, h3, h4⟩ := loop_run (body := impl_variation_b1 (tab n r)) (fun x => ∃ i : Nat, x.2.2.2 = (i : Int) ∧ 1 ≤ i ∧ i ≤ n ∧ isRat (x.2.1, x.2.2.1) = true ∧ ((x.1 = false ∧ sumD r (i - 1) = some (x.2.1, x.2.2.1)) ∨ (x.1 = true ∧ sumD r (i - 1) = none))) (fun x => n - x.2.2.2.toNat)
    (fun y => (y.1 = false ∧ sumD r (n - 1) = some y.2) ∨ (y.1 = true ∧ sumD r (n - 1) = none)) (fun ⟨bad, a, b, t⟩ ⟨i, e, hi0, hi, hs, hc⟩ => by
      simp only at e hs hc
      subst e
      by_cases hlt : i < n
      · left
        have hp := hr (i - 1) (by omega)
        have hq := hr i hlt
        have hd : isRat (cK bad (distQ (r (i - 1)) (r i))).1 = true := cK_rat fun _ => distQ_rat
        refine ⟨_, by
          simp only [impl_variation_b1, tab_len, idxO_tab hlt, w64_pred (show 0 < i by omega) (by omega), idxO_tab (show i - 1 < n by omega), show ((i : Int) < (n : Int)) from by omega, decide_true, if_true, Option.bind_some, impl_distance_eq bad hp hq, impl_add_eq _ hs hd, w64_nat (show i < 9223372036854775807 by omega)]
          rfl, ⟨i + 1, rfl, by omega, hlt, cK_rat fun _ => addQ_rat, ?_⟩, by simp only [Int.toNat_natCast]; omega⟩
        have e1 : sumD r (i + 1 - 1) = (sumD r (i - 1)).bind fun s => (distQ (r (i - 1)) (r i)).bind fun d => addQ s d := by
          obtain ⟨j, rfl⟩ : ∃ j, i = j + 1 := ⟨i - 1, by omega⟩
          rfl
        simp only
        rw [e1]
        rcases hc with ⟨rfl, h5⟩ | ⟨rfl, h5⟩
        · rw [h5]
          simp only [Option.bind_some]
          cases hdq : distQ (r (i - 1)) (r i) with
          | none => right; simp only [cK, Option.bind_none]; exact ⟨by cases addQ (a, b) (0, 1) <;> rfl, trivial⟩
          | some d =>
            simp only [cK, Option.bind_some]
            cases haq : addQ (a, b) d with
            | none => right; exact ⟨rfl, rfl⟩
            | some s => left; exact ⟨rfl, rfl⟩
        · right
          rw [h5]
          refine ⟨?_, rfl⟩
          cases distQ (r (i - 1)) (r i) <;> simp only [cK] <;> (generalize addQ (a, b) _ = o; cases o <;> rfl)
      · right
        have : i = n := by omega
        subst this
        exact ⟨(bad, a, b), by simp [impl_variation_b1, tab_len], hc⟩) (false, 0, 1, 1) ⟨1, rfl, by omega, by omega, by decide, .inl ⟨rfl, rfl⟩⟩
  unfold impl_variation impl_zero
  simp only [Option.bind_some]
  rw [h3, Option.bind_some]
  rcases h4 with ⟨h4, h5⟩ | ⟨h4, h5⟩
  · rw [h5]; simp [impl_variation_k1, h4, unO]
  · rw [h5]; simp [impl_variation_k1, h4, unO]
theorem spec_lpSum_eq (n : Nat) (r : Nat → Rt) (h1 : 1 ≤ n) (hn : n ≤ 1048576) (hr : ∀ i, i < n → isRat (r i) = true) : spec_lpSum (tab n r) = some (unO (sumD r (n - 1))) := by
  obtain ⟨y, h3, h4⟩ := loop_run (body := spec_lpSum_b1 (tab n r)) (fun x => ∃ i : Nat, x.2.2 = (i : Int) ∧ 1 ≤ i ∧ i ≤ n ∧ sumD r (i - 1) = some (x.1, x.2.1)) (fun x => n - x.2.2.toNat)
    (fun y => (y = .inl ((0, 0), false) ∧ sumD r (n - 1) = none) ∨ ∃ s, y = .inr s ∧ sumD r (n - 1) = some s) (fun ⟨a, b, t⟩ ⟨i, e, hi0, hi, hc⟩ => by
      simp only at e hc
      subst e
      by_cases hlt : i < n
      · have hp := hr (i - 1) (by omega)
        have hq := hr i hlt
        have hs := sumD_rat _ _ hc
        have e1 : sumD r i = (subQ (r i) (r (i - 1))).bind fun d => addQ (a, b) (absR d) := by
          obtain ⟨j, rfl⟩ : ∃ j, i = j + 1 := ⟨i - 1, by omega⟩
          simp only [Nat.add_sub_cancel] at hc hp ⊢
          simp only [sumD, hc, Option.bind_some, distQ_abs hp hq]
          cases subQ (r (j + 1)) (r j) <;> rfl
        simp only [spec_lpSum_b1, tab_len, idxO_tab hlt, w64_pred (show 0 < i by omega) (by omega), idxO_tab (show i - 1 < n by omega), show ((i : Int) < (n : Int)) from by omega, decide_true, if_true, Option.bind_some, spec_raSub_eq hq hp]
        cases hsq : subQ (r i) (r (i - 1)) with
        | none => right; exact ⟨_, by simp [unO], .inl ⟨rfl, sumD_none (by rw [e1, hsq]; rfl) (by omega)⟩⟩
        | some d =>
          have hd := subQ_rat hsq
          obtain ⟨d1, d2, d3, d4, _⟩ := isRat_iff.1 hd
          have habs : isRat ((d.1.natAbs : Int), d.2) = true := isRat_abs hd
          simp only [unO, Bool.not_true, Bool.false_eq_true, if_false, spec_l1Abs_eq d.1 (by omega) (by omega), Option.bind_some, spec_raAdd_eq hs habs]
          cases haq : addQ (a, b) ((d.1.natAbs : Int), d.2) with
          | none => right; exact ⟨_, by simp [unO], .inl ⟨rfl, sumD_none (k := i) (by rw [e1, hsq]; exact haq) (by omega)⟩⟩
          | some s => left; exact ⟨(s.1, s.2, ((i + 1 : Nat) : Int)), by simp [unO, w64_nat (show i < 9223372036854775807 by omega)], ⟨i + 1, rfl, by omega, hlt, by rw [Nat.add_sub_cancel, e1, hsq]; exact haq⟩, by simp only [Int.toNat_natCast]; omega⟩
      · right
        have : i = n := by omega
        subst this
        exact ⟨.inr (a, b), by simp [spec_lpSum_b1, tab_len], .inr ⟨_, rfl, hc⟩⟩) (0, 1, 1) ⟨1, rfl, by omega, by omega, rfl⟩
  unfold spec_lpSum spec_raInt
  simp only [Option.bind_some]
  rw [h3, Option.bind_some]
  rcases h4 with ⟨rfl, h5⟩ | ⟨s, rfl, h5⟩
  · rw [h5]; rfl
  · rw [h5]; rfl
theorem ys_impl (n : Nat) (p : Nat → Pt) (hn : n ≤ 1048576) : loopO (impl_VariationOf_b1 (tab n p)) ([], 0) = some (tab n fun i => (p i).2) := by
  have hx := loop_tab (body := impl_VariationOf_b1 (tab n p)) n (fun l i => (l, (i : Int))) (fun i => (p i).2) (tab n fun i => (p i).2) (fun i hi => by
    simp only [impl_VariationOf_b1, tab_len, idxO_tab hi, show ((i : Int) < (n : Int)) from by omega, decide_true, if_true, Option.bind_some, w64_nat (show i < 9223372036854775807 by omega)]
    rw [guardO_bind_pos (by simp; omega)]) (by simp [impl_VariationOf_b1, tab_len])
  rw [show (0 : Int) = ((0 : Nat) : Int) from rfl, hx]
theorem ys_spec (n : Nat) (p : Nat → Pt) (hn : n ≤ 1048576) : loopO (spec_VariationOf_b1 (tab n p)) ([], 0) = some (tab n fun i => (p i).2) := ys_impl n p hn
theorem both_VariationOf (f : List Pt) (hl : f.length ≤ 4611686018427387904) : ∃ r, spec_VariationOf f = some r ∧ impl_VariationOf f = some r := by
  obtain ⟨c, h1, h2, h3⟩ := both_isMap f hl
  unfold spec_VariationOf impl_VariationOf
  rw [h1, h2]
  cases c
  · exact ⟨_, rfl, rfl⟩
  · obtain ⟨n, p, rfl, h4, h5, hm⟩ := h3 rfl
    have hr : ∀ i, i < n → isRat (p i).2 = true := fun i hi => coord_rat (hm.1 i hi).2
    simp only [Option.bind_some, Bool.not_true, Bool.false_eq_true, if_false, ys_impl n p (by omega), ys_spec n p (by omega), impl_VariationOf_k1, spec_VariationOf_k1, impl_variation_eq n (fun i => (p i).2) (by omega) (by omega) hr, spec_lpSum_eq n (fun i => (p i).2) (by omega) (by omega) hr]
    exact ⟨_, rfl, rfl⟩
/-- A law over a map alone, by its two sides. -/
theorem sz_points (f : List Pt) (hl : f.length ≤ 9223372036854775807) : ∃ v, laws_szPointS f 1048576 = some v ∧ (¬ v < 0 → f.length ≤ 1048576) := by
  rw [show (1048576 : Int) = ((1048576 : Nat) : Int) from rfl, laws_szPointS_eq f 1048576 (by omega) hl]
  by_cases h : 1048576 < f.length
  · exact ⟨-1, by simp [h], by omega⟩
  · exact ⟨((1048576 : Nat) : Int) - f.length, by simp [h], by omega⟩
theorem laws_FnExactVariationOf_eq (f : List Pt) (hl : f.length ≤ 9223372036854775807) : laws_FnExactVariationOf f = some true := by
  obtain ⟨v, h1, h2⟩ := sz_points f hl
  unfold laws_FnExactVariationOf
  rw [h1, Option.bind_some]
  by_cases h : v < 0
  · simp [h]
  · have hm := h2 h
    obtain ⟨r, e1, e2⟩ := both_VariationOf f (by omega)
    simp only [h, decide_false, Bool.false_eq_true, if_false, laws_toPointS_eq f (by omega), e1, e2, laws_eqRat_self, laws_eqPointS_self f (by omega), Option.bind_some]
    simp
end Go.PV

/-
  Plain laws: slopes and laps of a map.
  Conditions: none.
-/
set_option linter.all false
namespace Go.PV
/-! ### slopes -/
structure LowOk (n d : Int) (r : Rt) : Prop where
  eq : lowQ n d = some r
  rat : isRat r = true
  num : r.1.natAbs ≤ n.natAbs
  den : 1 ≤ r.2 ∧ r.2 ≤ d
  pos : 0 < n → 0 < r.1
  neg : n < 0 → r.1 < 0
  zer : n = 0 → r.1 = 0
theorem lowQ_some_nonneg {n d : Int} (h1 : 0 ≤ n) (h2 : n ≤ 1000000000) (h3 : 1 ≤ d) (h4 : d ≤ 1000000000) : ∃ r, LowOk n d r := by
  have hg : 0 < Int.gcd n d := Int.gcd_pos_of_ne_zero_right _ (by omega)
  have hdn : ¬ d < 0 := by omega
  have hr := lowest_isRat h1 h2 h3 h4
  have e : lowest n d = if isRat (Int.tdiv n (Int.gcd n d : Int), Int.tdiv d (Int.gcd n d : Int)) = true then ((Int.tdiv n (Int.gcd n d : Int), Int.tdiv d (Int.gcd n d : Int)), true) else ((0, 0), false) := by
    unfold lowest; simp only [if_neg hdn]
  have hrat : isRat (Int.tdiv n (Int.gcd n d : Int), Int.tdiv d (Int.gcd n d : Int)) = true := by
    refine Classical.byContradiction fun hno => ?_
    rw [e, if_neg hno] at hr
    exact absurd hr (by decide)
  rw [if_pos hrat] at e
  have e1 : Int.tdiv n (Int.gcd n d : Int) = n / (Int.gcd n d : Int) := Int.tdiv_eq_ediv_of_nonneg h1
  have e2 : Int.tdiv d (Int.gcd n d : Int) = d / (Int.gcd n d : Int) := Int.tdiv_eq_ediv_of_nonneg (by omega)
  have hgn : 0 < n → (Int.gcd n d : Int) ≤ n := fun h => by
    have := Nat.gcd_le_left d.natAbs (show 0 < n.natAbs by omega)
    have e : Int.gcd n d = Nat.gcd n.natAbs d.natAbs := rfl
    omega
  refine ⟨_, ⟨by unfold lowQ; rw [e]; rfl, hrat, ?_, ⟨(isRat_iff.1 hrat).1, ?_⟩, fun h => ?_, fun h => by omega, fun h => by subst h; simp⟩⟩
  · exact tdiv_bound _ _
  · show Int.tdiv d _ ≤ d
    have := tdiv_bound d (Int.gcd n d : Int)
    have h5 := (isRat_iff.1 hrat).1
    simp only at h5
    omega
  · show 0 < Int.tdiv n _
    rw [e1]
    exact Int.ediv_pos_of_pos_of_dvd h (by omega) (Int.gcd_dvd_left ..)
theorem lowQ_some {n d : Int} (h1 : -1000000000 ≤ n) (h2 : n ≤ 1000000000) (h3 : 1 ≤ d) (h4 : d ≤ 1000000000) : ∃ r, LowOk n d r := by
  by_cases hn : 0 ≤ n
  · exact lowQ_some_nonneg hn h2 h3 h4
  · obtain ⟨r, h⟩ := lowQ_some_nonneg (n := -n) (d := d) (by omega) (by omega) h3 h4
    have e := lowQ_neg (n := -n) (d := d) (by omega)
    rw [Int.neg_neg, h.eq] at e
    have hr := isRat_neg h.rat
    have := h.pos (by omega)
    have := h.num
    exact ⟨(-r.1, r.2), ⟨e, by rw [Int.zero_sub] at hr; exact hr, by show (-r.1).natAbs ≤ _; omega, h.den, fun h => by omega, fun h => by show -r.1 < 0; omega, fun h => by omega⟩⟩
/-- Bounds of a coordinate. -/
theorem coord_bd {r : Rt} (h : coord r = true) : 0 ≤ r.1 ∧ r.1 ≤ r.2 ∧ 1 ≤ r.2 ∧ r.2 ≤ 100 := by
  simp only [coord, isUnit, Bool.and_eq_true, inB_iff, decide_eq_true_eq] at h
  have := isRat_iff.1 h.1.1
  omega
theorem mul_bd {a b A B : Int} (h1 : -A ≤ a) (h2 : a ≤ A) (h3 : -B ≤ b) (h4 : b ≤ B) (hA : 0 ≤ A) (hB : 0 ≤ B) : -(A * B) ≤ a * b ∧ a * b ≤ A * B := by
  have h5 : (a * b).natAbs ≤ A.natAbs * B.natAbs := by rw [Int.natAbs_mul]; exact Nat.mul_le_mul (by omega) (by omega)
  have h6 : ((A.natAbs * B.natAbs : Nat) : Int) = A * B := by rw [Int.natCast_mul]; rw [Int.natAbs_of_nonneg hA, Int.natAbs_of_nonneg hB]
  omega
/-- A small fraction: a coordinate, or a value of a lift. -/
def small (r : Rt) : Prop := isRat r = true ∧ -500 ≤ r.1 ∧ r.1 ≤ 500 ∧ 1 ≤ r.2 ∧ r.2 ≤ 100
theorem small_coord {r : Rt} (h : coord r = true) : small r := by
  have := coord_bd h
  exact ⟨coord_rat h, by omega, by omega, by omega, by omega⟩
/-- The difference of two small fractions. -/
theorem sub_small {a b : Rt} (ha : small a) (hb : small b) : ∃ r, LowOk (a.1 * b.2 - b.1 * a.2) (a.2 * b.2) r ∧ subQ a b = some r ∧ r.1.natAbs ≤ 100000 ∧ r.2 ≤ 10000 := by
  obtain ⟨_, a1, a2, a3, a4⟩ := ha
  obtain ⟨_, b1, b2, b3, b4⟩ := hb
  have m1 := mul_bd (a := a.1) (b := b.2) (A := 500) (B := 100) (by omega) (by omega) (by omega) (by omega) (by omega) (by omega)
  have m2 := mul_bd (a := b.1) (b := a.2) (A := 500) (B := 100) (by omega) (by omega) (by omega) (by omega) (by omega) (by omega)
  have m3 := mul_bd (a := a.2) (b := b.2) (A := 100) (B := 100) (by omega) (by omega) (by omega) (by omega) (by omega) (by omega)
  have p3 : 0 < a.2 * b.2 := Int.mul_pos (by omega) (by omega)
  obtain ⟨r, hr⟩ := lowQ_some (n := a.1 * b.2 - b.1 * a.2) (d := a.2 * b.2) (by omega) (by omega) (by omega) (by omega)
  have h5 := hr.num
  have h6 := hr.den
  exact ⟨r, hr, hr.eq, by omega, by omega⟩
/-- The slope of a piece. -/
def slopeQ (p q : Pt) : Rt := (((subQ q.2 p.2).bind fun u => (subQ q.1 p.1).bind fun v => divQ u v)).getD (0, 0)
structure SlopeOk (p q : Pt) (u v : Rt) : Prop where
  up : subQ q.2 p.2 = some u
  far : subQ q.1 p.1 = some v
  ru : isRat u = true
  rv : isRat v = true
  div : divQ u v = some (slopeQ p q)
  rs : isRat (slopeQ p q) = true
  ub : u.1.natAbs ≤ 100000 ∧ u.2 ≤ 10000
  vb : v.1.natAbs ≤ 10000 ∧ v.2 ≤ 10000
  vp : 0 < v.1
  sg : (0 < (slopeQ p q).1 ↔ 0 < u.1) ∧ ((slopeQ p q).1 < 0 ↔ u.1 < 0)
theorem slope_ok {p q : Pt} (hp1 : coord p.1 = true) (hp2 : small p.2) (hq1 : coord q.1 = true) (hq2 : small q.2) (hl : less p.1 q.1 = true) : ∃ u v, SlopeOk p q u v := by
  obtain ⟨u, hu, e1, u1, u2⟩ := sub_small hq2 hp2
  obtain ⟨v, hv, e2, v1', v2⟩ := sub_small (small_coord hq1) (small_coord hp1)
  have v1 : v.1.natAbs ≤ 10000 := by
    have h1 := hv.num
    obtain ⟨a1, a2, a3, a4⟩ := coord_bd hq1
    obtain ⟨b1, b2, b3, b4⟩ := coord_bd hp1
    have m1 := mul_bd (a := q.1.1) (b := p.1.2) (A := 100) (B := 100) (by omega) (by omega) (by omega) (by omega) (by omega) (by omega)
    have m2 := mul_bd (a := p.1.1) (b := q.1.2) (A := 100) (B := 100) (by omega) (by omega) (by omega) (by omega) (by omega) (by omega)
    have p1 : 0 ≤ q.1.1 * p.1.2 := Int.mul_nonneg a1 (by omega)
    have p2 : 0 ≤ p.1.1 * q.1.2 := Int.mul_nonneg b1 (by omega)
    omega
  have hlt : p.1.1 * q.1.2 < q.1.1 * p.1.2 := by simpa [less] using hl
  have hvp := hv.pos (by omega)
  have hud := hu.den
  have hvd := hv.den
  have m1 := mul_bd (a := u.1) (b := v.2) (A := 100000) (B := 10000) (by omega) (by omega) (by omega) (by omega) (by omega) (by omega)
  have m2 := mul_bd (a := u.2) (b := v.1) (A := 10000) (B := 10000) (by omega) (by omega) (by omega) (by omega) (by omega) (by omega)
  have m3 : 0 < u.2 * v.1 := Int.mul_pos (by omega) hvp
  obtain ⟨s, hs⟩ := lowQ_some (n := u.1 * v.2) (d := u.2 * v.1) (by omega) (by omega) (by omega) (by omega)
  have e3 : divQ u v = some s := by unfold divQ; rw [if_neg (by omega)]; exact hs.eq
  have e4 : slopeQ p q = s := by unfold slopeQ; rw [e1, e2]; simp [e3]
  refine ⟨u, v, ⟨e1, e2, hu.rat, hv.rat, by rw [e4]; exact e3, by rw [e4]; exact hs.rat, ⟨u1, u2⟩, ⟨v1, v2⟩, hvp, ?_⟩⟩
  rw [e4]
  have hv2 : 0 < v.2 := by omega
  rcases Int.lt_trichotomy u.1 0 with h | h | h
  · have h1 : u.1 * v.2 < 0 := Int.mul_neg_of_neg_of_pos h hv2
    have := hs.neg h1
    constructor <;> constructor <;> omega
  · have h1 : u.1 * v.2 = 0 := by rw [h, Int.zero_mul]
    have := hs.zer h1
    constructor <;> constructor <;> omega
  · have h1 : 0 < u.1 * v.2 := Int.mul_pos h hv2
    have := hs.pos h1
    constructor <;> constructor <;> omega
theorem impl_slope_eq {p q : Pt} {u v : Rt} (hp1 : coord p.1 = true) (hp2 : small p.2) (hq1 : coord q.1 = true) (hq2 : small q.2) (h : SlopeOk p q u v) (bad : Bool) : impl_calc_slope bad p q = some (slopeQ p q, bad) := by
  unfold impl_calc_slope
  rw [impl_sub_eq bad hq2.1 hp2.1, Option.bind_some, h.up]
  simp only [cK]
  rw [impl_sub_eq bad (coord_rat hq1) (coord_rat hp1), Option.bind_some, h.far]
  simp only [cK]
  rw [impl_div_eq bad h.ru h.rv, Option.bind_some, h.div]
  rfl
theorem spec_imSlope_eq {p q : Pt} {u v : Rt} (hp1 : coord p.1 = true) (hp2 : small p.2) (hq1 : coord q.1 = true) (hq2 : small q.2) (h : SlopeOk p q u v) : spec_imSlope p q = some (slopeQ p q) := by
  unfold spec_imSlope
  rw [spec_raSub_eq hq2.1 hp2.1, Option.bind_some, h.up]
  simp only [unO]
  rw [spec_raSub_eq (coord_rat hq1) (coord_rat hp1), Option.bind_some, h.far]
  simp only [unO]
  rw [spec_raDiv_eq h.ru h.rv, Option.bind_some, h.div]
  rfl
section
variable {n : Nat} {p : Nat → Pt}
theorem piece_ok (h : isMapT n p) {i : Nat} (hi : i + 1 < n) : ∃ u v, SlopeOk (p i) (p (i + 1)) u v :=
  slope_ok (h.1 i (by omega)).1 (small_coord (h.1 i (by omega)).2) (h.1 (i + 1) hi).1 (small_coord (h.1 (i + 1) hi).2) (h.2.1 (i + 1) (by omega) hi)
def slopesT (n : Nat) (p : Nat → Pt) : List Rt := tab (n - 1) fun i => slopeQ (p i) (p (i + 1))
theorem impl_slopes_tab (h : isMapT n p) (h2 : 2 ≤ n) (hn : n ≤ 12) : impl_slopes (tab n p) = some (slopesT n p) := by
  have hx := loop_tab (body := impl_slopes_b1 (tab n p)) (n - 1) (fun l i => (false, l, ((i + 1 : Nat) : Int))) (fun i => slopeQ (p i) (p (i + 1))) (slopesT n p) (fun i hi => by
    obtain ⟨u, v, hs⟩ := piece_ok h (i := i) (by omega)
    have a := h.1 i (by omega)
    have b := h.1 (i + 1) (by omega)
    simp only [impl_slopes_b1, tab_len, w64_pred (show 0 < i + 1 by omega) (by omega), Nat.add_sub_cancel, idxO_tab (show i < n by omega), idxO_tab (show i + 1 < n by omega), show (((i + 1 : Nat) : Int) < (n : Int)) from by omega, decide_true, if_true, Option.bind_some, impl_slope_eq a.1 (small_coord a.2) b.1 (small_coord b.2) hs false, w64_nat (show i + 1 < 9223372036854775807 by omega)]
    rw [guardO_bind_pos (by simp; omega)]) (by
    simp only [impl_slopes_b1, tab_len, show ¬ (((n - 1 + 1 : Nat) : Int) < (n : Int)) from by omega, decide_false, Bool.false_eq_true, if_false]
    rfl)
  unfold impl_slopes
  rw [show (1 : Int) = ((0 + 1 : Nat) : Int) from rfl, hx]; rfl
theorem spec_imSlopes_tab (h : isMapT n p) (h2 : 2 ≤ n) (hn : n ≤ 12) : spec_imSlopes (tab n p) = some (slopesT n p) := by
  have hx := loop_tab (body := spec_imSlopes_b1 (tab n p)) (n - 1) (fun l i => (l, ((i + 1 : Nat) : Int))) (fun i => slopeQ (p i) (p (i + 1))) (slopesT n p) (fun i hi => by
    obtain ⟨u, v, hs⟩ := piece_ok h (i := i) (by omega)
    have a := h.1 i (by omega)
    have b := h.1 (i + 1) (by omega)
    simp only [spec_imSlopes_b1, tab_len, w64_pred (show 0 < i + 1 by omega) (by omega), Nat.add_sub_cancel, idxO_tab (show i < n by omega), idxO_tab (show i + 1 < n by omega), show (((i + 1 : Nat) : Int) < (n : Int)) from by omega, decide_true, if_true, Option.bind_some, spec_imSlope_eq a.1 (small_coord a.2) b.1 (small_coord b.2) hs, w64_nat (show i + 1 < 9223372036854775807 by omega)]
    rw [guardO_bind_pos (by simp; omega)]) (by
    simp only [spec_imSlopes_b1, tab_len, show ¬ (((n - 1 + 1 : Nat) : Int) < (n : Int)) from by omega, decide_false, Bool.false_eq_true, if_false]
    rfl)
  unfold spec_imSlopes
  rw [show (1 : Int) = ((0 + 1 : Nat) : Int) from rfl, hx]; rfl
/-! ### strict maps -/
def strictB (n : Nat) (p : Nat → Pt) : Bool := (slopesT n p).all fun s => !(s.1 == 0)
theorem spec_lpStrict_tab (h : isMapT n p) (h2 : 2 ≤ n) (hn : n ≤ 12) : spec_lpStrict (tab n p) = some (strictB n p) := by
  have hl : (slopesT n p).length = n - 1 := tab_len _ _
  have hx := loop_any (xs := slopesT n p) (body := spec_lpStrict_b1 (slopesT n p)) (fun s => s.1 == 0) (fun i => (i : Int)) (.inl false) (.inr ()) (fun i x hx => by
    have hi := getElem?_lt hx
    simp only [spec_lpStrict_b1, idxO_nat, hx, Option.bind_some, show ((i : Int) < ((slopesT n p).length : Int)) from by omega, decide_true, if_true, w64_nat (show i < 9223372036854775807 by omega)]
    cases x.1 == 0 <;> rfl) (by simp [spec_lpStrict_b1])
  unfold spec_lpStrict strictB
  rw [spec_imSlopes_tab h h2 hn, Option.bind_some, show (0 : Int) = ((0 : Nat) : Int) from rfl, hx, List.any_eq_not_all_not]
  simp only [Int.natCast_zero]
  cases (slopesT n p).all fun s => !(s.1 == 0) <;> simp [spec_lpStrict_k1]
theorem contains_Rat (xs : List Rt) (f : Rt → Option Bool) (q : Rt → Bool) (hf : ∀ x, f x = some (q x)) (hl : xs.length ≤ 4611686018427387904) : slices_ContainsFunc_Limpl_Rat_impl_Rat xs f = some (xs.any q) := by
  have h := loop_first (xs := xs) (body := slices_IndexFunc_Limpl_Rat_impl_Rat_b1 xs f) q (fun i => (i : Int)) (fun i => .inl (i : Int)) (.inr ()) (fun i x hx => by
    have hi := getElem?_lt hx
    simp only [slices_IndexFunc_Limpl_Rat_impl_Rat_b1, idxO_nat, hx, hf x, Option.bind_some, w64_nat (show i < 9223372036854775807 by omega), show ((i : Int) < (xs.length : Int)) from by omega, decide_true, if_true]
    cases q x <;> rfl) (by simp [slices_IndexFunc_Limpl_Rat_impl_Rat_b1])
  unfold slices_ContainsFunc_Limpl_Rat_impl_Rat slices_IndexFunc_Limpl_Rat_impl_Rat
  rw [show (0 : Int) = ((0 : Nat) : Int) from rfl, h]
  cases hx : xs.findIdx? q with
  | none =>
    have hn := List.findIdx?_eq_none_iff.1 hx
    have : xs.any q = false := by simpa using hn
    simp [this, slices_IndexFunc_Limpl_Rat_impl_Rat_k1]
  | some m =>
    obtain ⟨hm, hp, _⟩ := List.findIdx?_eq_some_iff_getElem.1 hx
    have : xs.any q = true := by simp; exact ⟨xs[m].1, xs[m].2, List.getElem_mem hm, hp⟩
    simp [this]
end
/-- The two sides agree on which maps are strict. -/
theorem both_strict (f : List Pt) (hl : f.length ≤ 4611686018427387904) : ∃ c b, spec_imGood f = some c ∧ impl_isMap f = some c ∧ impl_isStrict f = some (c && b) ∧
    (c = true → spec_lpStrict f = some b ∧ ∃ n p, f = tab n p ∧ 2 ≤ n ∧ n ≤ 12 ∧ isMapT n p ∧ b = strictB n p) := by
  obtain ⟨c, h1, h2, h3⟩ := both_isMap f hl
  cases c
  · exact ⟨false, false, h1, h2, by simp [impl_isStrict, impl_isLapMap, h2], by simp⟩
  · obtain ⟨n, p, rfl, h4, h5, hm⟩ := h3 rfl
    refine ⟨true, strictB n p, h1, h2, ?_, fun _ => ⟨spec_lpStrict_tab hm h4 h5, n, p, rfl, h4, h5, hm, rfl⟩⟩
    unfold impl_isStrict impl_isLapMap
    rw [h2]
    simp only [Option.bind_some, if_true, impl_slopes_tab hm h4 h5, contains_Rat (slopesT n p) (fun x0 => impl_isLapMap_1 x0) (fun s => s.1 == 0) (fun x => rfl) (by unfold slopesT; rw [tab_len]; omega), strictB, Bool.true_and, List.any_eq_not_all_not, Bool.not_not]
theorem both_IsStrict (f : List Pt) (hl : f.length ≤ 4611686018427387904) : ∃ r, spec_IsStrict f = some r ∧ impl_IsStrict f = some r := by
  obtain ⟨c, b, h1, h2, h3, h4⟩ := both_strict f hl
  unfold spec_IsStrict impl_IsStrict
  rw [h1, h2]
  cases c
  · exact ⟨_, rfl, rfl⟩
  · simp only [Option.bind_some, Bool.not_true, Bool.false_eq_true, if_false, (h4 rfl).1, h3]
    exact ⟨_, rfl, rfl⟩
theorem laws_FnExactIsStrict_eq (f : List Pt) (hl : f.length ≤ 9223372036854775807) : laws_FnExactIsStrict f = some true := by
  obtain ⟨v, h1, h2⟩ := sz_points f hl
  unfold laws_FnExactIsStrict
  rw [h1, Option.bind_some]
  by_cases h : v < 0
  · simp [h]
  · have hm := h2 h
    obtain ⟨r, e1, e2⟩ := both_IsStrict f (by omega)
    simp only [h, decide_false, Bool.false_eq_true, if_false, laws_toPointS_eq f (by omega), e1, e2, laws_eqPointS_self f (by omega), Option.bind_some]
    simp
end Go.PV

/-
  Plain laws: values of maps and lifts.
  Conditions: none.
-/
set_option linter.all false
namespace Go.PV
/-- Points whose X go up from 0 to 1, with small Y. -/
structure Curve (n : Nat) (p : Nat → Pt) : Prop where
  lo : 2 ≤ n
  hi : n ≤ 12
  x : ∀ i, i < n → coord (p i).1 = true
  y : ∀ i, i < n → small (p i).2
  up : ∀ i, 0 < i → i < n → less (p (i - 1)).1 (p i).1 = true
  fst : (p 0).1 = (0, 1)
  lst : (p (n - 1)).1 = (1, 1)
theorem Curve.of_map {n : Nat} {p : Nat → Pt} (h : isMapT n p) (h2 : 2 ≤ n) (hn : n ≤ 12) : Curve n p :=
  ⟨h2, hn, fun i hi => (h.1 i hi).1, fun i hi => small_coord (h.1 i hi).2, h.2.1, h.2.2.1, h.2.2.2⟩
/-- What the calculator hands back, if this was asked for. -/
def CR (bad : Bool) (o : Option Rt) (v : Rt × Bool) : Prop := isRat v.1 = true ∧ match o with
  | some r => v = (r, bad)
  | none => v.2 = true
theorem CR_cK {bad : Bool} {o : Option Rt} (h : ∀ r, o = some r → isRat r = true) : CR bad o (cK bad o) := by
  refine ⟨cK_rat h, ?_⟩
  cases o <;> rfl
theorem CR_bad {o : Option Rt} {v : Rt × Bool} (h : CR true o v) : v.2 = true := by
  obtain ⟨_, h⟩ := h
  cases o with
  | some r => rw [h]
  | none => exact h
/-- One step behind another. -/
theorem CR_bind {bad : Bool} {o : Option Rt} {v v' : Rt × Bool} {g : Rt → Option Rt} (h : CR bad o v) (h' : CR v.2 (g v.1) v') : CR bad (o.bind g) v' := by
  obtain ⟨h1, h2⟩ := h
  refine ⟨h'.1, ?_⟩
  cases o with
  | some r =>
    simp only at h2
    subst h2
    exact h'.2
  | none =>
    simp only at h2
    simp only [Option.bind_none]
    have := h'
    rw [h2] at this
    exact CR_bad this
section
variable {n : Nat} {p : Nat → Pt}
theorem Curve.piece (h : Curve n p) {i : Nat} (hi : i + 1 < n) : ∃ u v, SlopeOk (p i) (p (i + 1)) u v :=
  slope_ok (h.x i (by omega)) (h.y i (by omega)) (h.x (i + 1) hi) (h.y (i + 1) hi) (h.up (i + 1) (by omega) hi)
/-! ### which piece -/
/-- x lies behind the points before j, not behind that at j. -/
structure AtJ (n : Nat) (p : Nat → Pt) (x : Rt) (j : Nat) : Prop where
  lt : j < n
  bef : ∀ k, k < j → less (p k).1 x = true
  at' : less (p j).1 x = false
theorem findJ (h : Curve n p) {x : Rt} (hx : isUnit x = true) : ∃ j, AtJ n p x j := by
  have hr : isRat x = true := by simp only [isUnit, Bool.and_eq_true] at hx; exact hx.1
  have hle : less (p (n - 1)).1 x = false := by
    rw [h.lst]
    simp only [isUnit, Bool.and_eq_true, inB_iff] at hx
    have := isRat_iff.1 hr
    simp only [less, decide_eq_false_iff_not]
    omega
  have : ∀ k, k < n → (∃ j, AtJ n p x j) ∨ ∀ i, i ≤ k → less (p i).1 x = true := by
    intro k
    induction k with
    | zero =>
      intro hk
      cases h0 : less (p 0).1 x
      · exact .inl ⟨0, hk, fun k hk => by omega, h0⟩
      · exact .inr fun i hi => by have : i = 0 := by omega
                                  subst this; exact h0
    | succ k ih =>
      intro hk
      rcases ih (by omega) with h1 | h1
      · exact .inl h1
      · cases h0 : less (p (k + 1)).1 x
        · exact .inl ⟨k + 1, hk, fun i hi => h1 i (by omega), h0⟩
        · refine .inr fun i hi => ?_
          by_cases hik : i ≤ k
          · exact h1 i hik
          · have : i = k + 1 := by omega
            subst this; exact h0
  have h2 := h.lo
  rcases this (n - 1) (by omega) with h1 | h1
  · exact h1
  · have := h1 (n - 1) (Nat.le_refl _)
    rw [hle] at this; cases this
theorem AtJ.uniq {x : Rt} {j k : Nat} (h : AtJ n p x j) (h' : AtJ n p x k) : j = k := by
  rcases Nat.lt_trichotomy j k with h1 | h1 | h1
  · have := h'.bef j h1; rw [h.at'] at this; cases this
  · exact h1
  · have := h.bef k h1; rw [h'.at'] at this; cases this
theorem index_Pt (f : Pt → Option Bool) (q : Nat → Bool) (hf : ∀ i, i < n → f (p i) = some (q i)) (j : Nat) (hj : j < n) (hn : n ≤ 1048576) (h1 : ∀ k, k < j → q k = false) (h2 : q j = true) : slices_IndexFunc_Limpl_Point_impl_Point (tab n p) f = some (j : Int) := by
  have hx := loop_idx (body := slices_IndexFunc_Limpl_Point_impl_Point_b1 (tab n p) f) j (fun i => (i : Int)) (.inl (j : Int)) (fun i hi => by
    simp only [slices_IndexFunc_Limpl_Point_impl_Point_b1, tab_len, idxO_tab (show i < n by omega), hf i (by omega), h1 i hi, Option.bind_some, show ((i : Int) < (n : Int)) from by omega, decide_true, if_true, w64_nat (show i < 9223372036854775807 by omega)]
    simp) (by
    simp only [slices_IndexFunc_Limpl_Point_impl_Point_b1, tab_len, idxO_tab hj, hf j hj, h2, Option.bind_some, show ((j : Int) < (n : Int)) from by omega, decide_true, if_true])
  unfold slices_IndexFunc_Limpl_Point_impl_Point
  rw [show (0 : Int) = ((0 : Nat) : Int) from rfl, hx]
  rfl
theorem impl_pieceAt_eq (h : Curve n p) {x : Rt} (hx : isRat x = true) {j : Nat} (hj : AtJ n p x j) : impl_pieceAt (tab n p) x = some ((j - 1 : Nat) : Int) := by
  have h1 := h.hi
  have hlt := hj.lt
  unfold impl_pieceAt
  rw [index_Pt (fun x0 => impl_pieceAt_1 x0 x) (fun i => !less (p i).1 x) (fun i hi => by simp [impl_pieceAt_1, impl_less_eq _ _ (coord_tame (h.x i hi)) (tame_of hx)]) j hlt (by omega) (fun k hk => by simp [hj.bef k hk]) (by simp [hj.at'])]
  rw [Option.bind_some, w64_id (by omega) (by omega)]
  congr 1
  split <;> omega
theorem spec_imPiece_eq (h : Curve n p) {x : Rt} (hx : isRat x = true) {j : Nat} (hj : AtJ n p x j) : spec_imPiece (tab n p) x = some ((j - 1 : Nat) : Int) := by
  have h1 := h.hi
  have h2 := h.lo
  have hlt := hj.lt
  have hx := loop_idx (body := spec_imPiece_b1 (tab n p) x) (j - 1) (fun i => (i : Int)) ((j - 1 : Nat) : Int) (fun i hi => by
    have e2 : w64 ((i : Int) + 2) = ((i + 2 : Nat) : Int) := by rw [w64_id (by omega) (by omega)]; omega
    simp only [spec_imPiece_b1, tab_len, e2, w64_nat (show i < 9223372036854775807 by omega), idxO_tab (show i + 1 < n by omega), Option.bind_some, spec_raCmp_eq _ _ (coord_tame (h.x (i + 1) (by omega))) (tame_of hx), show (((i + 2 : Nat) : Int) < (n : Int)) from by omega, decide_true, if_true]
    have : decide (cmp (p (i + 1)).1 x < 0) = true := by
      have := hj.bef (i + 1) (by omega)
      simp only [less, decide_eq_true_eq] at this
      simp [cmp, this]
    rw [this]; rfl) (by
    have e2 : w64 (((j - 1 : Nat) : Int) + 2) = ((j - 1 + 2 : Nat) : Int) := by rw [w64_id (by omega) (by omega)]; omega
    simp only [spec_imPiece_b1, tab_len, e2]
    by_cases hc : j - 1 + 2 < n
    · simp only [show (((j - 1 + 2 : Nat) : Int) < (n : Int)) from by omega, decide_true, if_true, w64_nat (show j - 1 < 9223372036854775807 by omega), idxO_tab (show j - 1 + 1 < n by omega), Option.bind_some, spec_raCmp_eq _ _ (coord_tame (h.x (j - 1 + 1) (by omega))) (tame_of hx)]
      have hno : less (p (j - 1 + 1)).1 x = false := by
        by_cases hj0 : j = 0
        · subst hj0
          -- x is not behind the first point, so not behind the second
          have h3 := hj.at'
          have h4 := h.up 1 (by omega) (by omega)
          rw [h.fst] at h3 h4
          obtain ⟨x1, x2, x3, x4, _⟩ := isRat_iff.1 hx
          have c := coord_bd (h.x 1 (by omega))
          simp only [less, decide_eq_false_iff_not, decide_eq_true_eq] at h3 h4 ⊢
          simp only [Nat.zero_sub, Nat.zero_add, Nat.sub_self] at h4 ⊢
          have p1 : 0 ≤ (p 1).1.1 * x.2 := Int.mul_nonneg c.1 (by omega)
          have p2 : x.1 * (p 1).1.2 ≤ 0 := Int.mul_nonpos_of_nonpos_of_nonneg (by omega) (by omega)
          omega
        · rw [show j - 1 + 1 = j by omega]; exact hj.at'
      have : decide (cmp (p (j - 1 + 1)).1 x < 0) = false := by
        simp only [less, decide_eq_false_iff_not] at hno
        simp only [cmp, hno, if_false]
        split <;> rfl
      rw [this]; rfl
    · simp only [show ¬ (((j - 1 + 2 : Nat) : Int) < (n : Int)) from by omega, decide_false, Bool.false_eq_true, if_false, Option.bind_some])
  unfold spec_imPiece
  rw [show (0 : Int) = ((0 : Nat) : Int) from rfl, hx]
  rfl
/-! ### values -/
def onQ (p q : Pt) (x : Rt) : Option Rt := (subQ x p.1).bind fun far => (mulQ (slopeQ p q) far).bind fun up => addQ p.2 up
theorem mulQ_comm (a b : Rt) : mulQ a b = mulQ b a := by unfold mulQ; rw [Int.mul_comm, Int.mul_comm a.2]
theorem impl_line_eq {q : Pt} {s x : Rt} (hq1 : isRat q.1 = true) (hq2 : isRat q.2 = true) (hs : isRat s = true) (hx : isRat x = true) (bad : Bool) : ∃ v, impl_calc_line bad q s x = some v ∧ CR bad ((subQ x q.1).bind fun far => (mulQ s far).bind fun up => addQ q.2 up) v := by
  have c1 : CR bad (subQ x q.1) (cK bad (subQ x q.1)) := CR_cK fun _ => subQ_rat
  have c2 := CR_cK (bad := (cK bad (subQ x q.1)).2) (o := mulQ s (cK bad (subQ x q.1)).1) fun _ => mulQ_rat
  have c3 := CR_cK (bad := (cK (cK bad (subQ x q.1)).2 (mulQ s (cK bad (subQ x q.1)).1)).2) (o := addQ q.2 (cK (cK bad (subQ x q.1)).2 (mulQ s (cK bad (subQ x q.1)).1)).1) fun _ => addQ_rat
  refine ⟨_, ?_, CR_bind c1 (CR_bind (g := fun up => addQ q.2 up) c2 c3)⟩
  unfold impl_calc_line
  rw [impl_sub_eq bad hx hq1, Option.bind_some, impl_mul_eq _ hs c1.1, Option.bind_some, impl_add_eq _ hq2 c2.1]
  rfl
theorem impl_value_eq (h : Curve n p) {x : Rt} (hx : isRat x = true) {j : Nat} (hj : AtJ n p x j) (bad : Bool) : ∃ v, impl_calc_value bad (tab n p) x = some v ∧ CR bad (onQ (p (j - 1)) (p (j - 1 + 1)) x) v := by
  have h1 := h.hi
  have h2 := h.lo
  have hlt := hj.lt
  have hj1 : j - 1 + 1 < n := by omega
  obtain ⟨u, v, hs⟩ := h.piece hj1
  obtain ⟨w, e1, e2⟩ := impl_line_eq (q := p (j - 1)) (s := slopeQ (p (j - 1)) (p (j - 1 + 1))) (x := x) (coord_rat (h.x (j - 1) (by omega))) (h.y (j - 1) (by omega)).1 hs.rs hx bad
  refine ⟨w, ?_, e2⟩
  unfold impl_calc_value
  rw [impl_pieceAt_eq h hx hj]
  simp only [Option.bind_some, w64_nat (show j - 1 < 9223372036854775807 by omega), idxO_tab (show j - 1 < n by omega), idxO_tab hj1, impl_slope_eq (h.x (j - 1) (by omega)) (h.y (j - 1) (by omega)) (h.x (j - 1 + 1) hj1) (h.y (j - 1 + 1) hj1) hs bad, e1]
theorem spec_raMul_zero (s : Rt) : spec_raMul (0, 0) s = some ((0, 0), false) := by
  unfold spec_raMul spec_raMake
  have : w64 (0 * s.2) = 0 := by rw [Int.zero_mul]; rfl
  simp only [this]
  rfl
theorem spec_imAt_eq (h : Curve n p) {x : Rt} (hx : isRat x = true) {j : Nat} (hj : AtJ n p x j) : spec_imAt (tab n p) x = some (unO (onQ (p (j - 1)) (p (j - 1 + 1)) x)) := by
  have h1 := h.hi
  have h2 := h.lo
  have hlt := hj.lt
  have hj1 : j - 1 + 1 < n := by omega
  obtain ⟨u, v, hs⟩ := h.piece hj1
  have rx := coord_rat (h.x (j - 1) (by omega))
  unfold spec_imAt
  rw [spec_imPiece_eq h hx hj]
  simp only [Option.bind_some, w64_nat (show j - 1 < 9223372036854775807 by omega), idxO_tab (show j - 1 < n by omega), idxO_tab hj1, spec_imOn, spec_raSub_eq hx rx, spec_imSlope_eq (h.x (j - 1) (by omega)) (h.y (j - 1) (by omega)) (h.x (j - 1 + 1) hj1) (h.y (j - 1 + 1) hj1) hs, onQ]
  cases hsq : subQ x (p (j - 1)).1 with
  | none =>
    simp only [unO, spec_raMul_zero, Option.bind_some, Option.bind_none]
    rfl
  | some far =>
    have hf := subQ_rat hsq
    simp only [unO, spec_raMul_eq hf hs.rs, Option.bind_some, mulQ_comm far]
    cases hmq : mulQ (slopeQ (p (j - 1)) (p (j - 1 + 1))) far with
    | none => rfl
    | some up =>
      simp only [unO, Option.bind_some, spec_raAdd_eq (h.y (j - 1) (by omega)).1 (mulQ_rat hmq)]
      rfl
end
end Go.PV

/-
  Plain laws: values of lifts.
  Conditions: none.
-/
set_option linter.all false
namespace Go.PV
/-! ### lifts as tables -/
structure LiftT (n : Nat) (p : Nat → Pt) : Prop where
  cur : Curve n p
  mono : ∀ i, 0 < i → i < n → less (p i).2 (p (i - 1)).2 = false
  lstY : (p (n - 1)).2 = ((p 0).2.1 + (p 0).2.2, (p 0).2.2)
  by5 : ∀ i, i < n → -5 * (p i).2.2 ≤ (p i).2.1 ∧ (p i).2.1 ≤ 5 * (p i).2.2
theorem isLift_tab {f : List Pt} (h : isLift f = true) : ∃ n p, f = tab n p ∧ LiftT n p := by
  unfold isLift at h
  simp only [Bool.and_eq_true, decide_eq_true_eq] at h
  obtain ⟨hin, ⟨hall, hst⟩, he⟩ := h
  have hb := inB_iff.1 hin
  have e : f = tab f.length (fun i => f.getD i ((0, 0), (0, 0))) := tab_eta f
  have hg : ∀ i, i < f.length → goodPt (f.getD i ((0, 0), (0, 0))) = true := fun i hi => by
    have : f.getD i ((0, 0), (0, 0)) = f[i] := by simp [hi]
    rw [this]; exact List.all_eq_true.1 hall _ (List.getElem_mem hi)
  have hget : ∀ i, i < f.length → f[i]? = some (f.getD i ((0, 0), (0, 0))) := fun i hi => by simp [hi]
  have hs : ∀ i, 0 < i → i < f.length → stepPt (f.getD (i - 1) ((0, 0), (0, 0))) (f.getD i ((0, 0), (0, 0))) = true := fun i h0 hi => hst i _ _ h0 hi (hget (i - 1) (by omega)) (hget i hi)
  unfold ends at he
  rw [hget 0 (by omega), hget (f.length - 1) (by omega)] at he
  simp only [Bool.and_eq_true, beq_iff_eq] at he
  have hgp : ∀ i, i < f.length → coord (f.getD i ((0, 0), (0, 0))).1 = true ∧ isRat (f.getD i ((0, 0), (0, 0))).2 = true ∧ (f.getD i ((0, 0), (0, 0))).2.2 ≤ 100 ∧ -5 * (f.getD i ((0, 0), (0, 0))).2.2 ≤ (f.getD i ((0, 0), (0, 0))).2.1 ∧ (f.getD i ((0, 0), (0, 0))).2.1 ≤ 5 * (f.getD i ((0, 0), (0, 0))).2.2 := fun i hi => by
    have := hg i hi
    simp only [goodPt, Bool.and_eq_true, decide_eq_true_eq, inB_iff] at this
    exact ⟨this.1, this.2.1, this.2.2.1, this.2.2.2.1, this.2.2.2.2⟩
  refine ⟨f.length, fun i => f.getD i ((0, 0), (0, 0)), e, ⟨⟨by omega, by omega, fun i hi => (hgp i hi).1, fun i hi => ?_, fun i h0 hi => ?_, he.1, he.2.1⟩, fun i h0 hi => ?_, he.2.2, fun i hi => (hgp i hi).2.2.2⟩⟩
  · obtain ⟨_, h1, h2, h3, h4⟩ := hgp i hi
    have := isRat_iff.1 h1
    exact ⟨h1, by omega, by omega, by omega, h2⟩
  · have := hs i h0 hi
    simp only [stepPt, Bool.and_eq_true] at this
    exact this.1
  · have := hs i h0 hi
    simp only [stepPt, Bool.and_eq_true, Bool.not_eq_true'] at this
    exact this.2
theorem both_isLift (f : List Pt) (hl : f.length ≤ 4611686018427387904) : spec_liGood f = some (isLift f) ∧ impl_isLift f = some (isLift f) := ⟨spec_liGood_eq f hl, impl_isLift_eq f hl⟩
/-! ### the fraction's part -/
theorem lowQ_self {r : Rt} (h : isRat r = true) : lowQ r.1 r.2 = some r := by unfold lowQ; rw [lowest_of_isRat h]; rfl
def flr (x : Rt) : Int := floorDiv x.1 x.2
def part (x : Rt) : Rt := (x.1 - flr x * x.2, x.2)
theorem isRat_whole {k : Int} (h1 : -1000000000 ≤ k) (h2 : k ≤ 1000000000) : isRat (k, 1) = true := isRat_iff.2 ⟨by show (1 : Int) ≤ 1; omega, by show (1 : Int) ≤ _; omega, h1, h2, by show Int.gcd k 1 = 1; simp⟩
theorem near_rat {x : Rt} (h : near x = true) : isRat x = true ∧ -1000 * x.2 ≤ x.1 ∧ x.1 ≤ 1000 * x.2 := by
  simp only [near, Bool.and_eq_true, inB_iff] at h
  exact ⟨h.1, h.2⟩
/-- The part of a valid fraction is a fraction of the unit interval. -/
structure PartOk (x : Rt) : Prop where
  rat : isRat (part x) = true
  lo : 0 ≤ (part x).1
  hi : (part x).1 < (part x).2
  spec : spec_raFloor x = some (flr x)
  impl : impl_floor x = some (flr x)
  bd : flr x * x.2 ≤ x.1 ∧ x.1 < flr x * x.2 + x.2
theorem part_ok {x : Rt} (h : isRat x = true) : PartOk x := by
  obtain ⟨h1, h2, h3, h4, h5⟩ := isRat_iff.1 h
  have hf := floorDiv_spec x.1 x.2 (by omega)
  refine ⟨?_, by show 0 ≤ x.1 - flr x * x.2; unfold flr; omega, by show x.1 - flr x * x.2 < x.2; unfold flr; omega, ?_, ?_, hf⟩
  · refine isRat_iff.2 ⟨h1, h2, by show -1000000000 ≤ x.1 - flr x * x.2; unfold flr; omega, by show x.1 - flr x * x.2 ≤ _; unfold flr; omega, ?_⟩
    show Int.gcd (x.1 - flr x * x.2) x.2 = 1
    rw [show x.1 - flr x * x.2 = x.1 + (-(flr x)) * x.2 by rw [Int.neg_mul]; omega, Int.gcd_add_mul_right_left]
    exact h5
  · unfold spec_raFloor; rw [spec_raDown_eq _ _ (by omega) (by omega) (by omega)]; rfl
  · unfold impl_floor; rw [impl_floorDivide_eq _ _ (by omega) (by omega) (by omega)]; rfl
theorem part_unit {x : Rt} (h : PartOk x) : isUnit (part x) = true := by
  have := h.lo
  have := h.hi
  simp only [isUnit, Bool.and_eq_true, inB_iff]
  exact ⟨h.rat, h.lo, by omega⟩
theorem flr_bd {x : Rt} (h : near x = true) : -1000 ≤ flr x ∧ flr x ≤ 1000 := by
  obtain ⟨hr, h6, h7⟩ := near_rat h
  obtain ⟨h1, h2, h3, h4, h5⟩ := isRat_iff.1 hr
  have hf := floorDiv_spec x.1 x.2 (by omega)
  unfold flr
  constructor
  · by_cases h : floorDiv x.1 x.2 < -1000
    · have : (floorDiv x.1 x.2 + 1) * x.2 ≤ -1000 * x.2 := Int.mul_le_mul_of_nonneg_right (by omega) (by omega)
      rw [Int.add_mul] at this; omega
    · omega
  · by_cases h : 1000 < floorDiv x.1 x.2
    · have : 1001 * x.2 ≤ floorDiv x.1 x.2 * x.2 := Int.mul_le_mul_of_nonneg_right (by omega) (by omega)
      omega
    · omega
theorem sub_whole {x : Rt} (h : PartOk x) : subQ x (flr x, 1) = some (part x) := by
  have := lowQ_self h.rat
  unfold subQ
  simp only [Int.mul_one]
  exact this
theorem spec_liPlus_part {x : Rt} (hx : isRat x = true) (h : near x = true) : spec_liPlus x (w64 (0 - flr x)) = some (part x) := by
  obtain ⟨h1, h2, h3, h4, h5⟩ := isRat_iff.1 hx
  have hb := flr_bd h
  have hp := part_ok hx
  have h6 := hp.bd
  unfold spec_liPlus part
  rw [w64_id (n := 0 - flr x) (by omega) (by omega)]
  have e : (0 - flr x) * x.2 = -(flr x * x.2) := by rw [Int.sub_mul]; omega
  rw [e, w64_id (n := -(flr x * x.2)) (by omega) (by omega), w64_id (by omega) (by omega)]
  congr 3
/-! ### values of lifts -/
section
variable {n : Nat} {p : Nat → Pt}
open Classical in
/-- The value at a fraction of the unit interval. -/
noncomputable def atQ (n : Nat) (p : Nat → Pt) (x : Rt) : Option Rt := if h : ∃ j, AtJ n p x j then onQ (p (Classical.choose h - 1)) (p (Classical.choose h - 1 + 1)) x else none
theorem atQ_eq {x : Rt} {j : Nat} (h : AtJ n p x j) : atQ n p x = onQ (p (j - 1)) (p (j - 1 + 1)) x := by
  have hx : ∃ j, AtJ n p x j := ⟨j, h⟩
  unfold atQ
  rw [dif_pos hx, AtJ.uniq (Classical.choose_spec hx) h]
theorem onQ_rat {q r : Pt} {x y : Rt} (h : onQ q r x = some y) : isRat y = true := by
  unfold onQ at h
  obtain ⟨a, _, h⟩ := Option.bind_eq_some_iff.1 h
  obtain ⟨b, _, h⟩ := Option.bind_eq_some_iff.1 h
  exact addQ_rat h
theorem atQ_rat {x y : Rt} (h : atQ n p x = some y) : isRat y = true := by
  unfold atQ at h
  split at h
  · exact onQ_rat h
  · cases h
theorem spec_at (h : Curve n p) {x : Rt} (hx : isUnit x = true) : spec_imAt (tab n p) x = some (unO (atQ n p x)) := by
  have hr : isRat x = true := by simp only [isUnit, Bool.and_eq_true] at hx; exact hx.1
  obtain ⟨j, hj⟩ := findJ h hx
  rw [spec_imAt_eq h hr hj, atQ_eq hj]
theorem impl_at (h : Curve n p) {x : Rt} (hx : isUnit x = true) (bad : Bool) : ∃ v, impl_calc_value bad (tab n p) x = some v ∧ CR bad (atQ n p x) v := by
  have hr : isRat x = true := by simp only [isUnit, Bool.and_eq_true] at hx; exact hx.1
  obtain ⟨j, hj⟩ := findJ h hx
  rw [atQ_eq hj]
  exact impl_value_eq h hr hj bad
noncomputable def liftQ (n : Nat) (p : Nat → Pt) (x : Rt) : Option Rt := (atQ n p (part x)).bind fun y => addQ y (flr x, 1)
theorem liftQ_rat {x y : Rt} (h : liftQ n p x = some y) : isRat y = true := by
  obtain ⟨a, _, h⟩ := Option.bind_eq_some_iff.1 h
  exact addQ_rat h
theorem spec_liAt_eq (h : Curve n p) {x : Rt} (hx : near x = true) : spec_liAt (tab n p) x = some (unO (liftQ n p x)) := by
  have hr := (near_rat hx).1
  have hp := part_ok hr
  have hk := flr_bd hx
  unfold spec_liAt liftQ
  rw [hp.spec]
  simp only [Option.bind_some, spec_liPlus_part hr hx, spec_at h (part_unit hp), spec_raInt]
  cases ha : atQ n p (part x) with
  | none => rfl
  | some y =>
    simp only [unO, Bool.not_true, Bool.false_eq_true, if_false, Option.bind_some, spec_raAdd_eq (atQ_rat ha) (isRat_whole (k := flr x) (by omega) (by omega))]
theorem impl_lift_eq (h : Curve n p) {x : Rt} (hx : near x = true) (bad : Bool) : ∃ v, impl_calc_lift bad (tab n p) x = some v ∧ CR bad (liftQ n p x) v := by
  have hr := (near_rat hx).1
  have hp := part_ok hr
  have hk := flr_bd hx
  have hw := isRat_whole (k := flr x) (by omega) (by omega)
  obtain ⟨v, e1, e2⟩ := impl_at h (part_unit hp) bad
  have c3 := CR_cK (bad := v.2) (o := addQ v.1 (flr x, 1)) fun _ => addQ_rat
  refine ⟨cK v.2 (addQ v.1 (flr x, 1)), ?_, CR_bind (g := fun y => addQ y (flr x, 1)) e2 c3⟩
  unfold impl_calc_lift impl_whole
  rw [hp.impl]
  simp only [Option.bind_some]
  rw [impl_sub_eq bad hr hw, sub_whole hp]
  simp only [Option.bind_some, cK]
  rw [e1, Option.bind_some, impl_add_eq _ e2.1 hw]
  rfl
end
theorem both_LiftAt (f : List Pt) (x : Rt) (hl : f.length ≤ 4611686018427387904) : ∃ r, spec_LiftAt f x = some r ∧ impl_LiftAt f x = some r := by
  obtain ⟨h1, h2⟩ := both_isLift f hl
  unfold spec_LiftAt impl_LiftAt
  rw [h1, h2]
  cases hf : isLift f
  · exact ⟨_, rfl, rfl⟩
  · obtain ⟨n, p, rfl, hL⟩ := isLift_tab hf
    simp only [Option.bind_some, Bool.not_true, Bool.false_eq_true, if_false, spec_liNear_eq, impl_isFar_eq]
    cases hx : near x
    · exact ⟨_, rfl, rfl⟩
    · obtain ⟨v, e1, e2, e3⟩ := impl_lift_eq hL.cur hx false
      simp only [Bool.not_true, Bool.false_eq_true, if_false, Option.bind_some, spec_liAt_eq hL.cur hx, e1]
      cases hq : liftQ n p x with
      | none => rw [hq] at e3; simp only at e3; rw [e3]; exact ⟨_, rfl, rfl⟩
      | some y => rw [hq] at e3; simp only at e3; subst e3; exact ⟨_, rfl, rfl⟩
theorem laws_FnExactLiftAt_eq (f : List Pt) (x : Rt) (hl : f.length ≤ 9223372036854775807) : laws_FnExactLiftAt f x = some true := by
  obtain ⟨v, h1, h2⟩ := laws_szLift_eq f hl
  unfold laws_FnExactLiftAt
  rw [h1, Option.bind_some]
  by_cases h : v < 0
  · simp [h]
  · have hm := h2 h
    obtain ⟨r, e1, e2⟩ := both_LiftAt f x (by omega)
    simp only [h, decide_false, Bool.false_eq_true, if_false, laws_toLift_eq f (by omega), laws_toRat, e1, e2, laws_eqRat_self, laws_eqLift_self f (by omega), Option.bind_some]
    simp
end Go.PV

set_option linter.all false
namespace Go.PV
theorem less_not {a b : Int × Int} (hl : less a b = true) : less b a = false := by
  simp only [less, decide_eq_true_eq, decide_eq_false_iff_not] at hl ⊢
  omega
def minStep (a b : Int × Int) : Int × Int := if less b a = true then b else a
def maxStep (a b : Int × Int) : Int × Int := if less a b = true then b else a
def mnN (r : Nat → Int × Int) (i : Nat) : Int × Int := foldN i (fun s j => minStep s (r j)) (r 0)
def mxN (r : Nat → Int × Int) (i : Nat) : Int × Int := foldN i (fun s j => maxStep s (r j)) (r 0)
theorem mnN_succ (r : Nat → Int × Int) (i : Nat) : mnN r (i + 1) = minStep (mnN r i) (r i) := by simp [mnN, foldN_succ]
theorem mxN_succ (r : Nat → Int × Int) (i : Nat) : mxN r (i + 1) = maxStep (mxN r i) (r i) := by simp [mxN, foldN_succ]
theorem less_self (a : Int × Int) : less a a = false := by simp [less]
theorem mnN_one (r : Nat → Int × Int) : mnN r 1 = r 0 := by simp [mnN, foldN, minStep, less_self]
theorem mxN_one (r : Nat → Int × Int) : mxN r 1 = r 0 := by simp [mxN, foldN, maxStep, less_self]
theorem mn_rat {r : Nat → Int × Int} {n : Nat} (h0 : isRat (r 0) = true) (h : ∀ i, i < n → isRat (r i) = true) : ∀ i, i ≤ n → isRat (mnN r i) = true ∧ isRat (mxN r i) = true
  | 0, _ => by simpa [mnN, mxN, foldN_zero] using h0
  | i + 1, hi => by
    have ih := mn_rat h0 h i (by omega)
    rw [mnN_succ, mxN_succ]
    unfold minStep maxStep
    refine ⟨?_, ?_⟩
    · split
      · exact h i (by omega)
      · exact ih.1
    · split
      · exact h i (by omega)
      · exact ih.2
theorem cmp_lt (a b : Int × Int) : decide (cmp a b < 0) = less a b := by
  unfold cmp less
  by_cases h1 : a.1 * b.2 < b.1 * a.2
  · simp [h1]
  · by_cases h2 : a.1 * b.2 > b.1 * a.2 <;> simp [h1, h2]
theorem spec_ivLess_eq (a b : Int × Int) (ha : isRat a = true) (hb : isRat b = true) : spec_ivLess a b = some (minStep a b) := by
  unfold spec_ivLess minStep
  rw [spec_raCmp_eq a b (tame_of ha) (tame_of hb), Option.bind_some, cmp_lt]
  cases h : less a b
  · simp only [Bool.false_eq_true, if_false]
    cases h2 : less b a
    · simp only [Bool.false_eq_true, if_false]
      congr 1
      refine (cmp_same ha hb ?_).symm
      simp only [less, decide_eq_false_iff_not] at h h2
      omega
    · rfl
  · rw [less_not h]; rfl
theorem spec_ivGreater_eq (a b : Int × Int) (ha : isRat a = true) (hb : isRat b = true) : spec_ivGreater a b = some (maxStep a b) := by
  unfold spec_ivGreater maxStep
  rw [spec_raCmp_eq a b (tame_of ha) (tame_of hb), Option.bind_some, cmp_lt]
  cases less a b <;> rfl

/-- The ratios. -/
def ratN (G : Nat → Nat → Int) (v : Nat → Int) (n i : Nat) : Int × Int := (lowest (dotN (G i) v n) (v i)).1
section
variable {n : Nat} {G : Nat → Nat → Int} {v : Nat → Int}
theorem ratN_rat (hn : n ≤ 8) (hG : ∀ i j, i < n → j < n → 0 ≤ G i j ∧ G i j ≤ 9) (hv : ∀ j, j < n → 1 ≤ v j ∧ v j ≤ 1000000) {i : Nat} (hi : i < n) : isRat (ratN G v n i) = true := by
  have b := dotN_bound n (Nat.le_refl n) (fun j hj => hG i j hi hj) hv
  have c := hv i hi
  exact lowest_isRat b.1 (by omega) c.1 (by omega)
theorem spec_gwRatios_eq (hn : n ≤ 8) (hG : ∀ i j, i < n → j < n → 0 ≤ G i j ∧ G i j ≤ 9) (hv : ∀ j, j < n → 1 ≤ v j ∧ v j ≤ 1000000) : spec_gwRatios (mat n n G) (tab n v) = some (tab n (ratN G v n)) := by
  have h := loop_idx (body := spec_gwRatios_b1 (tab n v) (tab n fun i => dotN (G i) v n)) n (fun i => (tab i (ratN G v n), (i : Int))) (tab n (ratN G v n)) (fun i hi => by
    have b := dotN_bound n (Nat.le_refl n) (fun j hj => hG i j hi hj) hv
    have c := hv i hi
    simp only [spec_gwRatios_b1, tab_len, idxO_tab hi, Option.bind_some, show ((i : Int) < (n : Int)) from by omega, decide_true, if_true, spec_raMake_eq _ _ b.1 (by omega) c.1 (by omega), w64_nat (show i < 9223372036854775807 by omega)]
    rw [guardO_bind_pos (by simp; omega), ← tab_succ i (ratN G v n)]
    rfl) (by simp [spec_gwRatios_b1, tab_len])
  unfold spec_gwRatios
  rw [spec_gwTimes_eq hn hG hv, Option.bind_some]
  have h' : loopO (spec_gwRatios_b1 (tab n v) (tab n fun i => dotN (G i) v n)) ([], 0) = some (tab n (ratN G v n)) := h
  rw [h']
  rfl
theorem spec_gwBounds_eq (h1 : 1 ≤ n) (hn : n ≤ 8) (hG : ∀ i j, i < n → j < n → 0 ≤ G i j ∧ G i j ≤ 9) (hv : ∀ j, j < n → 1 ≤ v j ∧ v j ≤ 1000000) :
    spec_gwBounds (mat n n G) (tab n v) = some (mnN (ratN G v n) n, mxN (ratN G v n) n) := by
  have hr : ∀ i, i < n → isRat (ratN G v n i) = true := fun i hi => ratN_rat hn hG hv hi
  generalize hR : ratN G v n = r at hr
  have h := loop_idx (body := spec_gwBounds_b1 (tab n r)) n (fun i => ((mnN r i).1, (mnN r i).2, (mxN r i).1, (mxN r i).2, (i : Int))) ((mnN r n).1, (mnN r n).2, (mxN r n).1, (mxN r n).2) (fun i hi => by
    have b := mn_rat (hr 0 (by omega)) hr i (by omega)
    simp only [spec_gwBounds_b1, tab_len, idxO_tab hi, Option.bind_some, show ((i : Int) < (n : Int)) from by omega, decide_true, if_true, w64_nat (show i < 9223372036854775807 by omega)]
    rw [show ((mnN r i).1, (mnN r i).2) = mnN r i from rfl, show ((mxN r i).1, (mxN r i).2) = mxN r i from rfl, spec_ivLess_eq _ _ b.1 (hr i hi), spec_ivGreater_eq _ _ b.2 (hr i hi)]
    simp only [Option.bind_some, mnN_succ, mxN_succ]) (by simp [spec_gwBounds_b1, tab_len])
  unfold spec_gwBounds
  rw [spec_gwRatios_eq hn hG hv, hR, Option.bind_some, show (0 : Int) = ((0 : Nat) : Int) from rfl, idxO_tab (by omega), Option.bind_some]
  have h' : loopO (spec_gwBounds_b1 (tab n r)) ((r 0).1, (r 0).2, (r 0).1, (r 0).2, ((0 : Nat) : Int)) = some ((mnN r n).1, (mnN r n).2, (mxN r n).1, (mxN r n).2) := h
  rw [h']
  rfl
theorem minFunc_eq {r : Nat → Int × Int} (h1 : 1 ≤ n) (hn : n ≤ 1048576) (hr : ∀ i, i < n → isRat (r i) = true) : slices_MinFunc_Limpl_Rat_impl_Rat (tab n r) (fun x0 x1 => impl_compare x0 x1) = some (mnN r n) := by
  have h := loop_idx (body := slices_MinFunc_Limpl_Rat_impl_Rat_b1 (tab n r) (fun x0 x1 => impl_compare x0 x1)) (n - 1) (fun i => ((mnN r (i + 1)).1, (mnN r (i + 1)).2, ((i + 1 : Nat) : Int))) (mnN r n) (fun i hi => by
    have hi' : i + 1 < n := by omega
    have b := mn_rat (hr 0 (by omega)) hr (i + 1) (by omega)
    simp only [slices_MinFunc_Limpl_Rat_impl_Rat_b1, tab_len, idxO_tab hi', Option.bind_some, show (((i + 1 : Nat) : Int) < (n : Int)) from by omega, decide_true, if_true, w64_nat (show i + 1 < 9223372036854775807 by omega)]
    rw [show ((mnN r (i + 1)).1, (mnN r (i + 1)).2) = mnN r (i + 1) from rfl, impl_compare_eq _ _ (tame_of (hr _ hi')) (tame_of b.1), Option.bind_some, cmp_lt, mnN_succ r (i + 1)]
    unfold minStep
    cases less (r (i + 1)) (mnN r (i + 1)) <;> simp) (by
    have e : n - 1 + 1 = n := by omega
    simp [slices_MinFunc_Limpl_Rat_impl_Rat_b1, tab_len, e])
  unfold slices_MinFunc_Limpl_Rat_impl_Rat slices_MinFunc_Limpl_Rat_impl_Rat_k1
  have hl : ¬ (n : Int) < 1 := by omega
  simp only [tab_len, hl, decide_false, Bool.false_eq_true, if_false]
  rw [show (0 : Int) = ((0 : Nat) : Int) from rfl, idxO_tab (by omega), Option.bind_some]
  simp only [Nat.zero_add, mnN_one] at h
  have h' : loopO (slices_MinFunc_Limpl_Rat_impl_Rat_b1 (tab n r) (fun x0 x1 => impl_compare x0 x1)) ((r 0).1, (r 0).2, 1) = some (mnN r n) := h
  rw [h']
  rfl
theorem maxFunc_eq {r : Nat → Int × Int} (h1 : 1 ≤ n) (hn : n ≤ 1048576) (hr : ∀ i, i < n → isRat (r i) = true) : slices_MaxFunc_Limpl_Rat_impl_Rat (tab n r) (fun x0 x1 => impl_compare x0 x1) = some (mxN r n) := by
  have h := loop_idx (body := slices_MaxFunc_Limpl_Rat_impl_Rat_b1 (tab n r) (fun x0 x1 => impl_compare x0 x1)) (n - 1) (fun i => ((mxN r (i + 1)).1, (mxN r (i + 1)).2, ((i + 1 : Nat) : Int))) (mxN r n) (fun i hi => by
    have hi' : i + 1 < n := by omega
    have b := mn_rat (hr 0 (by omega)) hr (i + 1) (by omega)
    simp only [slices_MaxFunc_Limpl_Rat_impl_Rat_b1, tab_len, idxO_tab hi', Option.bind_some, show (((i + 1 : Nat) : Int) < (n : Int)) from by omega, decide_true, if_true, w64_nat (show i + 1 < 9223372036854775807 by omega)]
    rw [show ((mxN r (i + 1)).1, (mxN r (i + 1)).2) = mxN r (i + 1) from rfl, impl_compare_eq _ _ (tame_of (hr _ hi')) (tame_of b.2), Option.bind_some, cmp_gt, mxN_succ r (i + 1)]
    unfold maxStep
    cases less (mxN r (i + 1)) (r (i + 1)) <;> simp) (by
    have e : n - 1 + 1 = n := by omega
    simp [slices_MaxFunc_Limpl_Rat_impl_Rat_b1, tab_len, e])
  unfold slices_MaxFunc_Limpl_Rat_impl_Rat slices_MaxFunc_Limpl_Rat_impl_Rat_k1
  have hl : ¬ (n : Int) < 1 := by omega
  simp only [tab_len, hl, decide_false, Bool.false_eq_true, if_false]
  rw [show (0 : Int) = ((0 : Nat) : Int) from rfl, idxO_tab (by omega), Option.bind_some]
  simp only [Nat.zero_add, mxN_one] at h
  have h' : loopO (slices_MaxFunc_Limpl_Rat_impl_Rat_b1 (tab n r) (fun x0 x1 => impl_compare x0 x1)) ((r 0).1, (r 0).2, 1) = some (mxN r n) := h
  rw [h']
  rfl
theorem impl_ratioBounds_eq (h1 : 1 ≤ n) (hn : n ≤ 8) (hG : ∀ i j, i < n → j < n → 0 ≤ G i j ∧ G i j ≤ 9) (hv : ∀ j, j < n → 1 ≤ v j ∧ v j ≤ 1000000) :
    impl_ratioBounds (mat n n G) (tab n v) = some (mnN (ratN G v n) n, mxN (ratN G v n) n) := by
  have hr : ∀ i, i < n → isRat (ratN G v n i) = true := fun i hi => ratN_rat hn hG hv hi
  have h := loop_idx (body := impl_ratioBounds_b1 (tab n v) (tab n fun i => dotN (G i) v n)) n (fun i => (tab i (ratN G v n), (i : Int))) (tab n (ratN G v n)) (fun i hi => by
    have b := dotN_bound n (Nat.le_refl n) (fun j hj => hG i j hi hj) hv
    have c := hv i hi
    simp only [impl_ratioBounds_b1, tab_len, idxO_tab hi, Option.bind_some, show ((i : Int) < (n : Int)) from by omega, decide_true, if_true, impl_lowest_eq _ _ (show v i ≠ 0 by omega) (show -9223372036854775808 < dotN (G i) v n by omega) (by omega) (by omega) (by omega), w64_nat (show i < 9223372036854775807 by omega)]
    rw [guardO_bind_pos (by simp; omega), ← tab_succ i (ratN G v n)]
    rfl) (by simp [impl_ratioBounds_b1, tab_len])
  unfold impl_ratioBounds
  rw [impl_times_eq hn hG hv, Option.bind_some]
  have h' : loopO (impl_ratioBounds_b1 (tab n v) (tab n fun i => dotN (G i) v n)) ([], 0) = some (tab n (ratN G v n)) := h
  rw [h', Option.bind_some]
  simp only [impl_ratioBounds_k1, minFunc_eq h1 (by omega) hr, maxFunc_eq h1 (by omega) hr, Option.bind_some]
end
/-- A graph and a vector for it. -/
def asked (g : List (List Int)) (u : List Int) : Bool := isGraph g && (isVec u && ((u.length : Int) == (g.length : Int)))
theorem spec_gwAsked_eq (g : List (List Int)) (u : List Int) (hg : sized g) (hu : u.length ≤ 4611686018427387904) : spec_gwAsked g u = some (asked g u) := by
  unfold spec_gwAsked asked
  rw [spec_grGood_eq g hg, Option.bind_some, spec_gwVector_eq u hu]
  cases isGraph g <;> cases isVec u <;> simp
theorem impl_isVectorOf_eq (g : List (List Int)) (u : List Int) (hg : sized g) (hu : u.length ≤ 4611686018427387904) : impl_isVectorOf g u = some (asked g u) := by
  unfold impl_isVectorOf asked
  rw [impl_isGraph_eq g hg, Option.bind_some, impl_isVector_eq u hu]
  have e : ((g.length : Int) == (u.length : Int)) = ((u.length : Int) == (g.length : Int)) := by rw [Bool.eq_iff_iff]; simp only [beq_iff_eq]; omega
  cases isGraph g <;> cases isVec u <;> simp [e]
theorem asked_mat {g : List (List Int)} {u : List Int} (h : asked g u = true) : ∃ (n : Nat) (G : Nat → Nat → Int) (v : Nat → Int), 1 ≤ n ∧ n ≤ 8 ∧ g = mat n n G ∧ u = tab n v ∧ (∀ i j, i < n → j < n → 0 ≤ G i j ∧ G i j ≤ 9) ∧ ∀ j, j < n → 1 ≤ v j ∧ v j ≤ 1000000 := by
  simp only [asked, Bool.and_eq_true, beq_iff_eq] at h
  obtain ⟨h1, h2, h3⟩ := h
  obtain ⟨n, G, a, b, rfl, d⟩ := isGraph_mat h1
  rw [mat_len] at h3
  have hl : u.length = n := by omega
  have e := tab_eta u
  rw [hl] at e
  refine ⟨n, G, fun i => u.getD i default, a, b, rfl, e, d, fun j hj => ?_⟩
  simp only [isVec, Bool.and_eq_true] at h2
  have h4 := h2.2
  rw [e, tab_all] at h4
  have := inB_iff.1 (h4 j hj)
  exact this
theorem both_RatioBounds (g : List (List Int)) (u : List Int) (hg : sized g) (hu : u.length ≤ 4611686018427387904) : ∃ r, spec_RatioBounds g u = some r ∧ impl_RatioBounds g u = some r := by
  unfold spec_RatioBounds impl_RatioBounds
  rw [spec_gwAsked_eq g u hg hu, impl_isVectorOf_eq g u hg hu]
  simp only [Option.bind_some]
  cases h : asked g u
  · exact ⟨((0, 0), (0, 0), false), by simp, by simp⟩
  · obtain ⟨n, G, v, a, b, rfl, rfl, c, d⟩ := asked_mat h
    rw [spec_gwBounds_eq a b c d, impl_ratioBounds_eq a b c d]
    exact ⟨(mnN (ratN G v n) n, mxN (ratN G v n) n, true), by simp, by simp⟩
theorem laws_FnExactRatioBounds_eq (g : List (List Int)) (u : List Int) (hl : g.length ≤ 9223372036854775807) (hr : ∀ row ∈ g, row.length ≤ 9223372036854775807) : laws_FnExactRatioBounds g u = some true := by
  obtain ⟨v, h1, h2⟩ := laws_szIntSS_eq g hl hr
  unfold laws_FnExactRatioBounds
  by_cases hu : (u.length : Int) > 1048576
  · simp [hu]
  · simp only [hu, decide_false, Bool.false_eq_true, if_false]
    rw [h1, Option.bind_some]
    by_cases hv : v < 0
    · simp [hv]
    · have hs := h2 (by omega)
      obtain ⟨r, e1, e2⟩ := both_RatioBounds g u hs (by omega)
      simp only [hv, decide_false, Bool.false_eq_true, if_false, laws_toIntSS_eq g hs, laws_toIntS_eq u (by omega), e1, e2, laws_eqRat_self, laws_eqIntSS_self g hs, laws_eqIntS_self u (by omega), Option.bind_some]
      simp
end Go.PV

set_option linter.all false
namespace Go.PV
theorem cmp_le (a b : Int × Int) : decide (cmp a b ≤ 0) = !less b a := by
  unfold cmp less
  by_cases h1 : a.1 * b.2 < b.1 * a.2
  · have : ¬ b.1 * a.2 < a.1 * b.2 := by omega
    simp [h1, this]
  · by_cases h2 : a.1 * b.2 > b.1 * a.2
    · have h3 : b.1 * a.2 < a.1 * b.2 := h2
      simp [h1, h3]
    · have : ¬ b.1 * a.2 < a.1 * b.2 := by omega
      simp [h1, this]
theorem both_IsGrowthBound (g : List (List Int)) (u : List Int) (a b : Int × Int) (hg : sized g) (hu : u.length ≤ 4611686018427387904) : ∃ r, spec_IsGrowthBound g u a b = some r ∧ impl_IsGrowthBound g u a b = some r := by
  unfold spec_IsGrowthBound impl_IsGrowthBound
  rw [spec_gwAsked_eq g u hg hu, impl_isVectorOf_eq g u hg hu, impl_areRats_eq [a, b] (by simp), spec_raGood_eq, spec_raGood_eq]
  simp only [Option.bind_some]
  cases h : asked g u
  · exact ⟨(false, false), by simp, by simp⟩
  · cases h1 : isRat a
    · exact ⟨(false, false), by simp, by simp [h1]⟩
    · cases h2 : isRat b
      · exact ⟨(false, false), by simp, by simp [h1, h2]⟩
      · obtain ⟨n, G, v, p, q, rfl, rfl, c, d⟩ := asked_mat h
        have hr : ∀ i, i < n → isRat (ratN G v n i) = true := fun i hi => ratN_rat q c d hi
        have hb := mn_rat (hr 0 (by omega)) hr n (Nat.le_refl n)
        unfold spec_gwWithin
        rw [spec_gwBounds_eq p q c d, impl_ratioBounds_eq p q c d]
        simp only [Option.bind_some, spec_raCmp_eq a _ (tame_of h1) (tame_of hb.1), spec_raCmp_eq _ b (tame_of hb.2) (tame_of h2), impl_less_eq _ a (tame_of hb.1) (tame_of h1), impl_less_eq b _ (tame_of h2) (tame_of hb.2), cmp_le]
        refine ⟨(!less (mnN (ratN G v n) n) a && !less b (mxN (ratN G v n) n), true), ?_, ?_⟩
        · cases less (mnN (ratN G v n) n) a <;> simp
        · cases less (mnN (ratN G v n) n) a <;> simp [h1, h2]
theorem laws_FnExactIsGrowthBound_eq (g : List (List Int)) (u : List Int) (a b : Int × Int) (hl : g.length ≤ 9223372036854775807) (hr : ∀ row ∈ g, row.length ≤ 9223372036854775807) : laws_FnExactIsGrowthBound g u a b = some true := by
  obtain ⟨v, h1, h2⟩ := laws_szIntSS_eq g hl hr
  unfold laws_FnExactIsGrowthBound
  by_cases hu : (u.length : Int) > 1048576
  · simp [hu]
  · simp only [hu, decide_false, Bool.false_eq_true, if_false]
    rw [h1, Option.bind_some]
    by_cases hv : v < 0
    · simp [hv]
    · have hs := h2 (by omega)
      obtain ⟨r, e1, e2⟩ := both_IsGrowthBound g u a b hs (by omega)
      simp only [hv, decide_false, Bool.false_eq_true, if_false, laws_toIntSS_eq g hs, laws_toIntS_eq u (by omega), laws_toRat, e1, e2, laws_eqIntSS_self g hs, laws_eqIntS_self u (by omega), Option.bind_some]
      simp
end Go.PV

/-
  Plain laws: where a lift comes from.
  Conditions: none.
-/
set_option linter.all false
namespace Go.PV
theorem lowQ_eq {n d : Int} (hd : 0 < d) {r : Rt} (h : lowQ n d = some r) : r.1 * d = n * r.2 ∧ 1 ≤ r.2 := by
  have hr := lowQ_rat h
  have h2 := (isRat_iff.1 hr).1
  have hdn : ¬ d < 0 := by omega
  unfold lowQ lowest at h
  simp only [if_neg hdn] at h
  by_cases h3 : isRat (Int.tdiv n (Int.gcd n d : Int), Int.tdiv d (Int.gcd n d : Int)) = true
  · rw [if_pos h3] at h
    simp only [if_true] at h
    obtain rfl := Option.some.inj h
    have a : (Int.gcd n d : Int) ∣ n := Int.gcd_dvd_left ..
    have b : (Int.gcd n d : Int) ∣ d := Int.gcd_dvd_right ..
    refine ⟨?_, h2⟩
    show Int.tdiv n (Int.gcd n d : Int) * d = n * Int.tdiv d (Int.gcd n d : Int)
    have e1 := Int.tdiv_mul_cancel a
    have e2 := Int.tdiv_mul_cancel b
    generalize Int.tdiv n (Int.gcd n d : Int) = u at *
    generalize Int.tdiv d (Int.gcd n d : Int) = v at *
    generalize (Int.gcd n d : Int) = g at *
    subst e1
    rw [← e2]
    grind
  · rw [if_neg h3] at h; simp at h
theorem lowQ_pos {n d : Int} (hd : 0 < d) (hn : 0 < n) {r : Rt} (h : lowQ n d = some r) : 0 < r.1 := by
  obtain ⟨a, b⟩ := lowQ_eq hd h
  have : 0 < n * r.2 := Int.mul_pos hn (by omega)
  rw [← a] at this
  exact Int.pos_of_mul_pos_left this (by omega) |> fun h => h
/-! ### order -/
theorem le_lt {a b c : Rt} (ha : isRat a = true) (hb : isRat b = true) (hc : isRat c = true) (h1 : less b a = false) (h2 : less b c = true) : less a c = true := by
  have a2 := (isRat_iff.1 ha).1
  have b2 := (isRat_iff.1 hb).1
  have c2 := (isRat_iff.1 hc).1
  simp only [less, decide_eq_true_eq, decide_eq_false_iff_not] at *
  have m1 := Int.mul_le_mul_of_nonneg_right (show a.1 * b.2 ≤ b.1 * a.2 by omega) (show 0 ≤ c.2 by omega)
  have m2 := Int.mul_lt_mul_of_pos_right h2 (show 0 < a.2 by omega)
  refine Classical.byContradiction fun h3 => ?_
  have m3 := Int.mul_le_mul_of_nonneg_right (show c.1 * a.2 ≤ a.1 * c.2 by omega) (show 0 ≤ b.2 by omega)
  grind
theorem lt_le {a b c : Rt} (ha : isRat a = true) (hb : isRat b = true) (hc : isRat c = true) (h1 : less a b = true) (h2 : less c b = false) : less a c = true := by
  have a2 := (isRat_iff.1 ha).1
  have b2 := (isRat_iff.1 hb).1
  have c2 := (isRat_iff.1 hc).1
  simp only [less, decide_eq_true_eq, decide_eq_false_iff_not] at *
  have m1 := Int.mul_le_mul_of_nonneg_right (show b.1 * c.2 ≤ c.1 * b.2 by omega) (show 0 ≤ a.2 by omega)
  have m2 := Int.mul_lt_mul_of_pos_right h1 (show 0 < c.2 by omega)
  refine Classical.byContradiction fun h3 => ?_
  have m3 := Int.mul_le_mul_of_nonneg_right (show c.1 * a.2 ≤ a.1 * c.2 by omega) (show 0 ≤ b.2 by omega)
  grind
theorem le_le {a b c : Rt} (ha : isRat a = true) (hb : isRat b = true) (hc : isRat c = true) (h1 : less b a = false) (h2 : less c b = false) : less c a = false := by
  cases h : less c a
  · rfl
  · have := lt_le hc ha hb h h1
    rw [h2] at this; cases this
theorem same_of {a b : Rt} (ha : isRat a = true) (hb : isRat b = true) (h1 : less a b = false) (h2 : less b a = false) : a = b := by
  refine cmp_same ha hb ?_
  simp only [less, decide_eq_false_iff_not] at h1 h2
  omega
/-! ### the parts -/
theorem spec_liPart_eq {x : Rt} (h : near x = true) : spec_liPart x = some (part x) := by
  have hr := (near_rat h).1
  obtain ⟨h1, h2, h3, h4, h5⟩ := isRat_iff.1 hr
  have hb := flr_bd h
  have hp := part_ok hr
  have h6 := hp.bd
  have h7 := hp.lo
  have h8 := hp.hi
  unfold spec_liPart
  rw [hp.spec, Option.bind_some]
  unfold part at *
  simp only at h7 h8
  rw [w64_id (n := flr x * x.2) (by omega) (by omega), w64_id (by omega) (by omega)]
theorem impl_fractionLeft_eq {x : Rt} (h : near x = true) : impl_fractionLeft x = some (part x) := by
  have hr := (near_rat h).1
  obtain ⟨h1, h2, h3, h4, h5⟩ := isRat_iff.1 hr
  have hb := flr_bd h
  have hp := part_ok hr
  have h6 := hp.bd
  have h7 := hp.lo
  have h8 := hp.hi
  unfold impl_fractionLeft
  rw [hp.impl, Option.bind_some]
  unfold part at *
  simp only at h7 h8
  rw [w64_id (n := flr x * x.2) (by omega) (by omega), w64_id (by omega) (by omega)]
def turnK (y x : Rt) : Int := if less (part x) (part y) = true then flr x - flr y - 1 else flr x - flr y
theorem turnK_bd {x y : Rt} (hx : near x = true) (hy : near y = true) : -2001 ≤ turnK y x ∧ turnK y x ≤ 2001 := by
  have a := flr_bd hx
  have b := flr_bd hy
  unfold turnK
  split <;> omega
/-- x without its turns lies between y and one more. -/
theorem turn_in {x y z : Rt} (hx : near x = true) (hy : near y = true) (hz : subQ x (turnK y x, 1) = some z) : isRat z = true ∧ less z y = false ∧ less z (y.1 + y.2, y.2) = true := by
  have hrz := subQ_rat hz
  have rx := (near_rat hx).1
  have ry := (near_rat hy).1
  have x2 := (isRat_iff.1 rx).1
  have y2 := (isRat_iff.1 ry).1
  have px := part_ok rx
  have py := part_ok ry
  refine ⟨hrz, ?_⟩
  have e := lowQ_eq (by show 0 < x.2 * 1; omega) hz
  have z2 := e.2
  have e1 : z.1 * x.2 = (x.1 - turnK y x * x.2) * z.2 := by
    have := e.1
    simp only [Int.mul_one] at this
    exact this
  -- z and x - k are the same number
  have hx1 : x.1 = (part x).1 + flr x * x.2 := by unfold part; simp only; omega
  have hy1 : y.1 = (part y).1 + flr y * y.2 := by unfold part; simp only; omega
  have l1 := px.lo
  have l2 := px.hi
  have l3 := py.lo
  have l4 := py.hi
  have ex : (part x).2 = x.2 := rfl
  have ey : (part y).2 = y.2 := rfl
  rw [ex] at l2
  rw [ey] at l4
  have key : 0 ≤ (x.1 - turnK y x * x.2) * y.2 - y.1 * x.2 ∧ (x.1 - turnK y x * x.2) * y.2 - y.1 * x.2 < y.2 * x.2 := by
    have q1 : 0 ≤ (part x).1 * y.2 := Int.mul_nonneg l1 (by omega)
    have q2 : (part x).1 * y.2 < x.2 * y.2 := Int.mul_lt_mul_of_pos_right l2 (by omega)
    have q3 : 0 ≤ (part y).1 * x.2 := Int.mul_nonneg l3 (by omega)
    have q4 : (part y).1 * x.2 < y.2 * x.2 := Int.mul_lt_mul_of_pos_right l4 (by omega)
    have q5 : x.2 * y.2 = y.2 * x.2 := Int.mul_comm ..
    unfold turnK
    cases hl : less (part x) (part y)
    · have : ¬ (part x).1 * y.2 < (part y).1 * x.2 := by simpa [less, ex, ey] using hl
      have e2 : (x.1 - (flr x - flr y) * x.2) * y.2 - y.1 * x.2 = (part x).1 * y.2 - (part y).1 * x.2 := by rw [hx1, hy1]; grind
      simp only [Bool.false_eq_true, if_false]
      rw [e2]
      omega
    · have : (part x).1 * y.2 < (part y).1 * x.2 := by simpa [less, ex, ey] using hl
      have e2 : (x.1 - (flr x - flr y - 1) * x.2) * y.2 - y.1 * x.2 = (part x).1 * y.2 - (part y).1 * x.2 + y.2 * x.2 := by rw [hx1, hy1]; grind
      simp only [if_true]
      rw [e2]
      omega
  generalize x.1 - turnK y x * x.2 = w at *
  simp only [less, decide_eq_true_eq, decide_eq_false_iff_not]
  have m1 : z.1 * y.2 * x.2 = w * y.2 * z.2 := by
    have : z.1 * y.2 * x.2 = z.1 * x.2 * y.2 := by grind
    rw [this, e1]; grind
  constructor
  · intro h
    have m2 := Int.mul_lt_mul_of_pos_right h (show 0 < x.2 by omega)
    have m3 := Int.mul_le_mul_of_nonneg_right (show y.1 * x.2 ≤ w * y.2 by omega) (show 0 ≤ z.2 by omega)
    grind
  · refine Classical.byContradiction fun h => ?_
    have m2 := Int.mul_le_mul_of_nonneg_right (show (y.1 + y.2) * z.2 ≤ z.1 * y.2 by omega) (show 0 ≤ x.2 by omega)
    have m3 := Int.mul_lt_mul_of_pos_right (show w * y.2 < y.1 * x.2 + y.2 * x.2 by omega) (show 0 < z.2 by omega)
    grind
/-! ### back along a piece -/
section
variable {n : Nat} {p : Nat → Pt}
def backQ (q r : Pt) (z : Rt) : Option Rt := (subQ z q.2).bind fun u => (divQ u (slopeQ q r)).bind fun v => addQ q.1 v
theorem spec_imBack_eq (h : Curve n p) {i : Nat} (hi : i + 1 < n) {z : Rt} (hz : isRat z = true) : spec_imBack (p i) (p (i + 1)) z = some (unO (backQ (p i) (p (i + 1)) z)) := by
  obtain ⟨u, v, hs⟩ := h.piece hi
  unfold spec_imBack backQ
  rw [spec_raSub_eq hz (h.y i (by omega)).1, Option.bind_some]
  cases h1 : subQ z (p i).2 with
  | none => rfl
  | some a =>
    simp only [unO, Bool.not_true, Bool.false_eq_true, if_false, spec_imSlope_eq (h.x i (by omega)) (h.y i (by omega)) (h.x (i + 1) hi) (h.y (i + 1) hi) hs, Option.bind_some, spec_raDiv_eq (subQ_rat h1) hs.rs]
    cases h2 : divQ a (slopeQ (p i) (p (i + 1))) with
    | none => rfl
    | some b =>
      simp only [unO, Bool.not_true, Bool.false_eq_true, if_false, Option.bind_some, spec_raAdd_eq (coord_rat (h.x i (by omega))) (divQ_rat h2)]
theorem impl_back_eq (h : Curve n p) {i : Nat} (hi : i + 1 < n) {z : Rt} (hz : isRat z = true) (bad : Bool) : ∃ v, impl_calc_back bad (p i) (p (i + 1)) z = some v ∧ CR bad (backQ (p i) (p (i + 1)) z) v := by
  obtain ⟨u, v, hs⟩ := h.piece hi
  have c1 : CR bad (subQ z (p i).2) (cK bad (subQ z (p i).2)) := CR_cK fun _ => subQ_rat
  have c2 := CR_cK (bad := (cK bad (subQ z (p i).2)).2) (o := divQ (cK bad (subQ z (p i).2)).1 (slopeQ (p i) (p (i + 1)))) fun _ => divQ_rat
  have c3 := CR_cK (bad := (cK (cK bad (subQ z (p i).2)).2 (divQ (cK bad (subQ z (p i).2)).1 (slopeQ (p i) (p (i + 1))))).2) (o := addQ (p i).1 (cK (cK bad (subQ z (p i).2)).2 (divQ (cK bad (subQ z (p i).2)).1 (slopeQ (p i) (p (i + 1))))).1) fun _ => addQ_rat
  refine ⟨_, ?_, CR_bind c1 (CR_bind (g := fun b => addQ (p i).1 b) c2 c3)⟩
  unfold impl_calc_back
  rw [impl_sub_eq bad hz (h.y i (by omega)).1, Option.bind_some, impl_slope_eq (h.x i (by omega)) (h.y i (by omega)) (h.x (i + 1) hi) (h.y (i + 1) hi) hs, Option.bind_some, impl_div_eq _ c1.1 hs.rs, Option.bind_some, impl_add_eq _ (coord_rat (h.x i (by omega))) c2.1]
  rfl
/-- Back along a rising piece never ends where the map starts. -/
theorem back_pos (h : Curve n p) {i : Nat} (hi : i + 1 < n) {z t : Rt} (hz : isRat z = true) (h1 : less (p i).2 z = true) (h2 : less z (p (i + 1)).2 = true ∨ less (p (i + 1)).2 z = false) (hb : backQ (p i) (p (i + 1)) z = some t) : t ≠ (0, 1) := by
  obtain ⟨u, v, hs⟩ := h.piece hi
  have ry := (h.y i (by omega)).1
  have ry' := (h.y (i + 1) hi).1
  have h3 : less (p i).2 (p (i + 1)).2 = true := by
    rcases h2 with h2 | h2
    · exact lt_le ry hz ry' h1 (less_le h2)
    · exact lt_le ry hz ry' h1 h2
  have hu : 0 < u.1 := by
    have a := hs.up
    refine lowQ_pos (den_pos ry' ry) ?_ a
    have : (p i).2.1 * (p (i + 1)).2.2 < (p (i + 1)).2.1 * (p i).2.2 := by simpa [less] using h3
    omega
  have hsp : 0 < (slopeQ (p i) (p (i + 1))).1 := hs.sg.1.2 hu
  unfold backQ at hb
  obtain ⟨a, ha, hb⟩ := Option.bind_eq_some_iff.1 hb
  obtain ⟨b, hb1, hb⟩ := Option.bind_eq_some_iff.1 hb
  have pa : 0 < a.1 := by
    refine lowQ_pos (den_pos hz ry) ?_ ha
    have : (p i).2.1 * z.2 < z.1 * (p i).2.2 := by simpa [less] using h1
    omega
  have a2 := (isRat_iff.1 (subQ_rat ha)).1
  have s2 := (isRat_iff.1 hs.rs).1
  have pb : 0 < b.1 := by
    unfold divQ at hb1
    rw [if_neg (by omega)] at hb1
    exact lowQ_pos (Int.mul_pos (by omega) hsp) (Int.mul_pos pa (by omega)) hb1
  have b2 := (isRat_iff.1 (divQ_rat hb1)).1
  have c := coord_bd (h.x i (by omega))
  have pt : 0 < t.1 := by
    refine lowQ_pos (Int.mul_pos (by omega) (by omega)) ?_ hb
    have m1 : 0 ≤ (p i).1.1 * b.2 := Int.mul_nonneg c.1 (by omega)
    have m2 : 0 < b.1 * (p i).1.2 := Int.mul_pos pb (by omega)
    omega
  intro he
  rw [he] at pt
  exact absurd pt (by decide)
/-! ### which piece -/
theorem LiftT.le (h : LiftT n p) : ∀ {i j : Nat}, i ≤ j → j < n → less (p j).2 (p i).2 = false := by
  intro i j hij hj
  induction j with
  | zero =>
    have : i = 0 := by omega
    subst this; simp [less]
  | succ j ih =>
    by_cases he : i = j + 1
    · subst he; simp [less]
    · exact le_le (h.cur.y i (by omega)).1 (h.cur.y j (by omega)).1 (h.cur.y (j + 1) hj).1 (ih (by omega) (by omega)) (h.mono (j + 1) (by omega) hj)
structure UpJ (n : Nat) (p : Nat → Pt) (z : Rt) (j : Nat) : Prop where
  pos : 0 < j
  lt : j < n
  bef : ∀ k, k < j → less (p k).2 z = true
  at' : less (p j).2 z = false
theorem find_up {z : Rt} (h0 : less (p 0).2 z = true) (h1 : less (p (n - 1)).2 z = false) (hn : 2 ≤ n) : ∃ j, UpJ n p z j := by
  have : ∀ k, k < n → (∃ j, UpJ n p z j) ∨ ∀ i, i ≤ k → less (p i).2 z = true := by
    intro k
    induction k with
    | zero => intro _; exact .inr fun i hi => by have : i = 0 := by omega
                                                 subst this; exact h0
    | succ k ih =>
      intro hk
      rcases ih (by omega) with h2 | h2
      · exact .inl h2
      · cases h3 : less (p (k + 1)).2 z
        · exact .inl ⟨k + 1, by omega, hk, fun i hi => h2 i (by omega), h3⟩
        · refine .inr fun i hi => ?_
          by_cases hik : i ≤ k
          · exact h2 i hik
          · have : i = k + 1 := by omega
            subst this; exact h3
  rcases this (n - 1) (by omega) with h2 | h2
  · exact h2
  · have := h2 (n - 1) (Nat.le_refl _)
    rw [h1] at this; cases this
/-- The last plateau starts at j. -/
structure FlatJ (n : Nat) (p : Nat → Pt) (j : Nat) : Prop where
  pos : 0 < j
  lt : j < n
  same : ∀ k, j < k → k < n → (p (k - 1)).2 = (p k).2
  step : (p (j - 1)).2 ≠ (p j).2
theorem find_flat (h : LiftT n p) : ∃ j, FlatJ n p j := by
  have h1 := h.cur.lo
  have : ∀ d, d < n → (∃ j, FlatJ n p j) ∨ ∀ k, n - 1 - d < k → k < n → (p (k - 1)).2 = (p k).2 := by
    intro d
    induction d with
    | zero => intro _; exact .inr fun k hk hk2 => by omega
    | succ d ih =>
      intro hd
      rcases ih (by omega) with h2 | h2
      · exact .inl h2
      · by_cases h3 : (p (n - 1 - d - 1)).2 = (p (n - 1 - d)).2
        · refine .inr fun k hk hk2 => ?_
          by_cases hk3 : n - 1 - d < k
          · exact h2 k hk3 hk2
          · have : k = n - 1 - d := by omega
            subst this; exact h3
        · exact .inl ⟨n - 1 - d, by omega, by omega, h2, h3⟩
  rcases this (n - 1) (by omega) with h2 | h2
  · exact h2
  · exfalso
    have : ∀ k, k < n → (p k).2 = (p 0).2 := by
      intro k
      induction k with
      | zero => intro _; rfl
      | succ k ih => intro hk; rw [← ih (by omega)]; exact (h2 (k + 1) (by omega) hk).symm
    have h3 := this (n - 1) (by omega)
    rw [h.lstY] at h3
    have h4 := congrArg Prod.fst h3
    simp only at h4
    have := (h.cur.y 0 (by omega)).2.2.2.1
    omega
/-! ### both searches -/
theorem LiftT.near0 (h : LiftT n p) : near (p 0).2 = true := by
  have h1 := h.cur.lo
  have a := h.by5 0 (by omega)
  have b := h.cur.y 0 (by omega)
  simp only [near, Bool.and_eq_true, inB_iff]
  exact ⟨b.1, by omega, by omega⟩
section
variable (h : Curve n p) {z : Rt} (hz : isRat z = true)
include h hz
theorem spec_bef_step {i : Nat} (hi : i + 1 < n) (a b : Int) : spec_LiftBefore_b2 (tab n p) (z, true) (a, b, ((i + 1 : Nat) : Int)) =
    if (less (p i).2 z && !less (p (i + 1)).2 z) = true then (match backQ (p i) (p (i + 1)) z with
      | none => some (.inr (.inl ((0, 0), false)))
      | some t => some (.inl (t.1, t.2, ((i + 1 + 1 : Nat) : Int)))) else some (.inl (a, b, ((i + 1 + 1 : Nat) : Int))) := by
  have h2 := h.hi
  have e1 : w64 (((i + 1 : Nat) : Int) - 1) = (i : Int) := by rw [w64_id (by omega) (by omega)]; omega
  simp only [spec_LiftBefore_b2, tab_len, show (((i + 1 : Nat) : Int) < (n : Int)) from by omega, decide_true, if_true, e1, idxO_tab (show i < n by omega), idxO_tab hi, Option.bind_some, spec_raCmp_eq _ _ (tame_of (h.y i (by omega)).1) (tame_of hz), spec_raCmp_eq _ _ (tame_of hz) (tame_of (h.y (i + 1) hi).1), cmp_lt, cmp_le, w64_nat (show i + 1 < 9223372036854775807 by omega)]
  cases less (p i).2 z
  · rfl
  · cases less (p (i + 1)).2 z
    · simp only [if_true, Option.bind_some, Bool.not_false, Bool.and_self, spec_imBack_eq h hi hz]
      cases backQ (p i) (p (i + 1)) z <;> rfl
    · rfl
theorem spec_bef_up (hm : ∀ {i j : Nat}, i ≤ j → j < n → less (p j).2 (p i).2 = false) {J : Nat} (hJ : UpJ n p z J) (a b : Int) :
    loopO (spec_LiftBefore_b2 (tab n p) (z, true)) (a, b, 1) = some (match backQ (p (J - 1)) (p (J - 1 + 1)) z with
      | none => .inl ((0, 0), false)
      | some t => .inr (t.1, t.2)) := by
  have h1 := h.lo
  have hp := hJ.pos
  have hlt := hJ.lt
  have e0 : ((1 : Int)) = ((0 + 1 : Nat) : Int) := rfl
  have hno : ∀ i, i + 1 < n → i ≠ J - 1 → (less (p i).2 z && !less (p (i + 1)).2 z) = false := fun i hi hne => by
    by_cases hl : i < J - 1
    · rw [hJ.bef i (by omega), hJ.bef (i + 1) (by omega)]; rfl
    · have : less (p i).2 z = false := by
        have h5 := le_le (a := z) (b := (p J).2) (c := (p i).2) hz (h.y J hlt).1 (h.y i (by omega)).1 hJ.at' (hm (show J ≤ i by omega) (by omega))
        exact h5
      rw [this]; rfl
  have hyes : (less (p (J - 1)).2 z && !less (p (J - 1 + 1)).2 z) = true := by
    rw [hJ.bef (J - 1) (by omega), show J - 1 + 1 = J by omega, hJ.at']; rfl
  cases hq : backQ (p (J - 1)) (p (J - 1 + 1)) z with
  | none =>
    rw [e0]
    refine loop_idx (J - 1) (fun i => (a, b, ((i + 1 : Nat) : Int))) _ (fun i hi => ?_) ?_
    · rw [spec_bef_step h hz (show i + 1 < n by omega), hno i (by omega) (by omega)]; simp
    · rw [spec_bef_step h hz (show J - 1 + 1 < n by omega), hyes, if_pos rfl, hq]
  | some t =>
    have := loop_idx (body := spec_LiftBefore_b2 (tab n p) (z, true)) (n - 1) (fun i => (if i < J then a else t.1, if i < J then b else t.2, ((i + 1 : Nat) : Int))) (.inr (t.1, t.2)) (fun i hi => by
      rw [spec_bef_step h hz (show i + 1 < n by omega)]
      by_cases he : i = J - 1
      · subst he
        rw [hyes, if_pos rfl, hq]
        simp [show ¬ (J - 1 + 1 < J) by omega]
      · rw [hno i (by omega) he]
        by_cases hl : i < J
        · simp [hl, show i + 1 < J by omega]
        · simp [hl, show ¬ (i + 1 < J) by omega]) (by
      simp [spec_LiftBefore_b2, tab_len, show ¬ (n - 1 < J) by omega]
      omega)
    simp only [show (0 < J) from hp, if_true] at this
    exact this
theorem spec_bef_no (hn : ∀ i, i < n → less (p i).2 z = false) (a b : Int) :
    loopO (spec_LiftBefore_b2 (tab n p) (z, true)) (a, b, 1) = some (.inr (a, b)) := by
  have h1 := h.lo
  have e0 : ((1 : Int)) = ((0 + 1 : Nat) : Int) := rfl
  rw [e0]
  refine loop_idx (n - 1) (fun i => (a, b, ((i + 1 : Nat) : Int))) _ (fun i hi => ?_) ?_
  · rw [spec_bef_step h hz (show i + 1 < n by omega), hn i (by omega)]; simp
  · simp [spec_LiftBefore_b2, tab_len]; omega
end
theorem both_flat (h : LiftT n p) {j : Nat} (hj : FlatJ n p j) : loopO (spec_LiftBefore_b1 (tab n p)) ((n - 1 : Nat) : Int) = some (j : Int) ∧ loopO (impl_calc_liftBefore_b1 (tab n p)) ((n - 1 : Nat) : Int) = some (j : Int) := by
  have h1 := h.cur.lo
  have h2 := h.cur.hi
  have hlt := hj.lt
  have hp := hj.pos
  have e : ∀ i, i ≤ n - 1 - j → ((n - 1 - i : Nat) : Int) > 0 ∧ w64 (((n - 1 - i : Nat) : Int) - 1) = ((n - 1 - i - 1 : Nat) : Int) := fun i hi => ⟨by omega, by rw [w64_id (by omega) (by omega)]; omega⟩
  have hs : ∀ i, i < n - 1 - j → ((p (n - 1 - i - 1)).2.1 == (p (n - 1 - i)).2.1 && (p (n - 1 - i - 1)).2.2 == (p (n - 1 - i)).2.2) = true := fun i hi => by
    rw [hj.same (n - 1 - i) (by omega) (by omega)]; simp
  have hn : ((p (n - 1 - (n - 1 - j) - 1)).2.1 == (p (n - 1 - (n - 1 - j))).2.1 && (p (n - 1 - (n - 1 - j) - 1)).2.2 == (p (n - 1 - (n - 1 - j))).2.2) = false := by
    rw [show n - 1 - (n - 1 - j) = j by omega]
    cases he : ((p (j - 1)).2.1 == (p j).2.1 && (p (j - 1)).2.2 == (p j).2.2)
    · rfl
    · exfalso
      simp only [Bool.and_eq_true, beq_iff_eq] at he
      exact hj.step (Prod.ext he.1 he.2)
  constructor
  · refine loop_idx (n - 1 - j) (fun i => ((n - 1 - i : Nat) : Int)) _ (fun i hi => ?_) ?_
    · have := e i (by omega)
      simp only [spec_LiftBefore_b1, this.1, this.2, decide_true, if_true, idxO_tab (show n - 1 - i - 1 < n by omega), idxO_tab (show n - 1 - i < n by omega), Option.bind_some, hs i hi]
      rw [show n - 1 - i - 1 = n - 1 - (i + 1) by omega]
    · have := e (n - 1 - j) (by omega)
      simp only [spec_LiftBefore_b1, this.1, this.2, decide_true, if_true, idxO_tab (show n - 1 - (n - 1 - j) - 1 < n by omega), idxO_tab (show n - 1 - (n - 1 - j) < n by omega), Option.bind_some, hn, Bool.false_eq_true, if_false]
      rw [show n - 1 - (n - 1 - j) = j by omega]
  · refine loop_idx (n - 1 - j) (fun i => ((n - 1 - i : Nat) : Int)) _ (fun i hi => ?_) ?_
    · have := e i (by omega)
      simp only [impl_calc_liftBefore_b1, this.2, if_true, idxO_tab (show n - 1 - i - 1 < n by omega), idxO_tab (show n - 1 - i < n by omega), Option.bind_some, hs i hi]
      rw [show n - 1 - i - 1 = n - 1 - (i + 1) by omega]
    · have := e (n - 1 - j) (by omega)
      simp only [impl_calc_liftBefore_b1, this.2, if_true, idxO_tab (show n - 1 - (n - 1 - j) - 1 < n by omega), idxO_tab (show n - 1 - (n - 1 - j) < n by omega), Option.bind_some, hn, Bool.false_eq_true, if_false]
      rw [show n - 1 - (n - 1 - j) = j by omega]
theorem sub_one {r : Rt} (h : coord r = true) : isRat (r.1 - r.2, r.2) = true ∧ subQ r (1, 1) = some (r.1 - r.2, r.2) ∧ spec_liPlus r (-1) = some (r.1 - r.2, r.2) := by
  have hr := coord_rat h
  obtain ⟨h1, h2, h3, h4, h5⟩ := isRat_iff.1 hr
  have c := coord_bd h
  have e : isRat (r.1 - r.2, r.2) = true := by
    refine isRat_iff.2 ⟨h1, h2, by show _ ≤ r.1 - r.2; omega, by show r.1 - r.2 ≤ _; omega, ?_⟩
    show Int.gcd (r.1 - r.2) r.2 = 1
    rw [show r.1 - r.2 = r.1 + (-1) * r.2 by omega, Int.gcd_add_mul_right_left]
    exact h5
  refine ⟨e, ?_, ?_⟩
  · have := lowQ_self e
    unfold subQ
    simp only [Int.mul_one, Int.one_mul]
    exact this
  · unfold spec_liPlus
    rw [w64_id (n := -1 * r.2) (by omega) (by omega), w64_id (by omega) (by omega)]
    congr 3
    omega
/-! ### the answers -/
theorem both_before_k1 (h : LiftT n p) {x : Rt} (hx : near x = true) (hk : -2001 ≤ turnK (p 0).2 x ∧ turnK (p 0).2 x ≤ 2001) :
    ∃ r v, spec_LiftBefore_k1 (tab n p) x (p 0) (turnK (p 0).2 x) = some r ∧ impl_calc_liftBefore_k1 false (tab n p) x (p 0) (turnK (p 0).2 x, 1) (turnK (p 0).2 x) = some v ∧ (if v.2 = true then ((0, 0), false) else (v.1, true)) = r := by
  have h1 := h.cur.lo
  have h2 := h.cur.hi
  have hr := (near_rat hx).1
  have hw : isRat (turnK (p 0).2 x, 1) = true := isRat_whole (by omega) (by omega)
  unfold spec_LiftBefore_k1 impl_calc_liftBefore_k1
  simp only [spec_raInt, Option.bind_some, spec_raSub_eq hr hw, impl_sub_eq false hr hw]
  cases hs : subQ x (turnK (p 0).2 x, 1) with
  | none => exact ⟨_, _, rfl, rfl, rfl⟩
  | some z =>
    obtain ⟨hz, z1, z2⟩ := turn_in hx h.near0 hs
    rw [← h.lstY] at z2
    have f0 := h.cur.fst
    simp only [unO, cK, Bool.not_true, Bool.false_eq_true, if_false]
    cases hl : less (p 0).2 z
    · -- the start itself
      have hzy : z = (p 0).2 := same_of hz (h.cur.y 0 (by omega)).1 z1 hl
      obtain ⟨j, hj⟩ := find_flat h
      obtain ⟨l1, l2⟩ := both_flat h hj
      have hjl := hj.lt
      have e1 : w64 ((n : Int) - 1) = ((n - 1 : Nat) : Int) := by rw [w64_id (by omega) (by omega)]; omega
      obtain ⟨s1, s2, s3⟩ := sub_one (h.cur.x j hjl)
      have hadd := spec_raAdd_eq s1 hw
      have iadd := impl_add_eq false s1 hw
      rw [spec_bef_no h.cur hz (fun i hi => by rw [hzy]; exact h.le (Nat.zero_le i) hi)]
      simp only [Option.bind_some, Sum.elim_inr, spec_LiftBefore_k2, beq_self_eq_true, Bool.and_self, if_true, tab_len, e1, l1, l2, hzy, spec_LiftBefore_k4, impl_calc_liftBefore_k3, idxO_tab hjl, impl_oneRat, impl_sub_eq false (coord_rat (h.cur.x j hjl)) isRat_one, s2, cK, iadd, spec_LiftBefore_k3, spec_raInt, s3]
      have hat : (if decide ((j : Int) < ((n - 1 : Nat) : Int)) = true then (spec_raAdd ((p j).1.1 - (p j).1.2, (p j).1.2) (turnK (p 0).2 x, 1)).bind fun v15 => some v15 else (spec_raAdd ((p 0).1.1, (p 0).1.2) (turnK (p 0).2 x, 1)).bind fun v15 => some v15) = some (unO (addQ ((p j).1.1 - (p j).1.2, (p j).1.2) (turnK (p 0).2 x, 1))) := by
        by_cases hc : j < n - 1
        · simp only [show ((j : Int) < ((n - 1 : Nat) : Int)) from by omega, decide_true, if_true, hadd, Option.bind_some]
        · have : j = n - 1 := by omega
          subst this
          simp only [show ¬ (((n - 1 : Nat) : Int) < ((n - 1 : Nat) : Int)) from by omega, decide_false, Bool.false_eq_true, if_false]
          rw [h.cur.lst] at hadd ⊢
          rw [f0]
          have hadd' : spec_raAdd (0, 1) (turnK (p 0).2 x, 1) = some (unO (addQ (1 - 1, 1) (turnK (p 0).2 x, 1))) := hadd
          rw [hadd']; rfl
      refine ⟨_, _, hat, rfl, ?_⟩
      cases addQ ((p j).1.1 - (p j).1.2, (p j).1.2) (turnK (p 0).2 x, 1) <;> rfl
    · -- within a rising piece
      obtain ⟨J, hJ⟩ := find_up hl (less_le z2) h1
      have hp := hJ.pos
      have hlt := hJ.lt
      have hne : (z.1 == (p 0).2.1 && z.2 == (p 0).2.2) = false := by
        cases he : (z.1 == (p 0).2.1 && z.2 == (p 0).2.2)
        · rfl
        · exfalso
          simp only [Bool.and_eq_true, beq_iff_eq] at he
          have : z = (p 0).2 := Prod.ext he.1 he.2
          rw [this] at hl
          simp [less] at hl
      rw [spec_bef_up h.cur hz h.le hJ]
      obtain ⟨v, b1, b2⟩ := impl_back_eq h.cur (i := J - 1) (by omega) hz false
      have eJ : w64 ((J : Int) - 1) = ((J - 1 : Nat) : Int) := by rw [w64_id (by omega) (by omega)]; omega
      have c3 := CR_cK (bad := v.2) (o := addQ v.1 (turnK (p 0).2 x, 1)) fun _ => addQ_rat
      have b3 := CR_bind (g := fun t => addQ t (turnK (p 0).2 x, 1)) b2 c3
      have hix := index_Pt (n := n) (p := p) (fun x0 => impl_calc_liftBefore_1 x0 z) (fun i => !less (p i).2 z) (fun i hi => by simp [impl_calc_liftBefore_1, impl_less_eq _ _ (tame_of (h.cur.y i hi).1) (tame_of hz)]) J hlt (by omega) (fun k hk => by simp [hJ.bef k hk]) (by simp [hJ.at'])
      simp only [hne, Bool.false_eq_true, if_false, impl_calc_liftBefore_k2, hix, Option.bind_some, eJ, idxO_tab (show J - 1 < n by omega), idxO_tab hlt]
      rw [show J - 1 + 1 = J by omega] at b1 b2 b3 ⊢
      simp only [b1, Option.bind_some, impl_add_eq _ b2.1 hw]
      cases hb : backQ (p (J - 1)) (p J) z with
      | none =>
        rw [hb] at b3
        have := b3.2
        simp only [Option.bind_none] at this
        refine ⟨_, _, rfl, rfl, ?_⟩
        rw [this]; rfl
      | some t =>
        rw [hb] at b3
        have ht : t ≠ (0, 1) := back_pos h.cur (i := J - 1) (by omega) hz (hJ.bef (J - 1) (by omega)) (.inr (by rw [show J - 1 + 1 = J by omega]; exact hJ.at')) (by rw [show J - 1 + 1 = J by omega]; exact hb)
        have htr : isRat t = true := by
          unfold backQ at hb
          obtain ⟨a, _, hb⟩ := Option.bind_eq_some_iff.1 hb
          obtain ⟨b, _, hb⟩ := Option.bind_eq_some_iff.1 hb
          exact addQ_rat hb
        have hnt : (t.1 == (p 0).1.1 && t.2 == (p 0).1.2) = false := by
          cases he : (t.1 == (p 0).1.1 && t.2 == (p 0).1.2)
          · rfl
          · exfalso
            simp only [Bool.and_eq_true, beq_iff_eq, f0] at he
            exact ht (Prod.ext he.1 he.2)
        have b4 := b3.2
        simp only [Option.bind_some] at b4
        refine ⟨unO (addQ t (turnK (p 0).2 x, 1)), _, ?_, rfl, ?_⟩
        · simp only [Option.bind_some, Sum.elim_inr, spec_LiftBefore_k2, hnt, Bool.false_eq_true, if_false, spec_LiftBefore_k3, spec_raInt]
          rw [show (t.1, t.2) = t from rfl, spec_raAdd_eq htr hw]; rfl
        · cases ha : addQ t (turnK (p 0).2 x, 1) with
          | none => rw [ha] at b4; simp only at b4; rw [b4]; rfl
          | some w => rw [ha] at b4; simp only at b4; rw [b4]; rfl
end
theorem both_LiftBefore (f : List Pt) (x : Rt) (hl : f.length ≤ 4611686018427387904) : ∃ r, spec_LiftBefore f x = some r ∧ impl_LiftBefore f x = some r := by
  obtain ⟨h1, h2⟩ := both_isLift f hl
  unfold spec_LiftBefore impl_LiftBefore
  rw [h1, h2]
  cases hf : isLift f
  · exact ⟨_, rfl, rfl⟩
  · obtain ⟨n, p, rfl, hL⟩ := isLift_tab hf
    simp only [Option.bind_some, Bool.not_true, Bool.false_eq_true, if_false, spec_liNear_eq, impl_isFar_eq]
    cases hx : near x
    · exact ⟨_, rfl, rfl⟩
    · have hn := hL.cur.lo
      have h0 := hL.near0
      have px := part_ok (near_rat hx).1
      have py := part_ok (near_rat h0).1
      have bx := flr_bd hx
      have bY := flr_bd h0
      obtain ⟨r, v, e1, e2, e3⟩ := both_before_k1 hL hx (turnK_bd hx h0)
      unfold impl_calc_liftBefore
      rw [show (0 : Int) = ((0 : Nat) : Int) from rfl, idxO_tab (show 0 < n by omega)]
      simp only [Bool.not_true, Bool.false_eq_true, if_false, Option.bind_some, px.spec, py.spec, px.impl, py.impl, spec_liPart_eq hx, spec_liPart_eq h0, impl_fractionLeft_eq hx, impl_fractionLeft_eq h0, impl_whole, impl_less_eq _ _ (tame_of px.rat) (tame_of py.rat), spec_raCmp_eq _ _ (tame_of px.rat) (tame_of py.rat), w64_id (n := flr x - flr (p 0).2) (by omega) (by omega), w64_id (n := flr x - flr (p 0).2 - 1) (by omega) (by omega)]
      have e4 : ∀ m, decide (cmp (part x) (part (p 0).2) < ((0 : Nat) : Int)) = m → less (part x) (part (p 0).2) = m := fun m h => by rw [← cmp_lt]; exact h
      cases hm : decide (cmp (part x) (part (p 0).2) < ((0 : Nat) : Int))
      all_goals
        have e5 := e4 _ hm
        rw [e5]
        unfold turnK at e1 e2
        simp only [e5, Bool.false_eq_true, if_false, if_true] at e1 e2 ⊢
      · rw [e1]
        refine ⟨r, rfl, ?_⟩
        have e6 : impl_calc_liftBefore_k1 false (tab n p) x (p 0) (flr x - flr (p 0).2, 1) (flr x - flr (p 0).2) = some v := e2
        rw [e6, ← e3]
        simp only [Option.bind_some]
        cases v.2 <;> rfl
      · rw [e1]
        refine ⟨r, rfl, ?_⟩
        have e6 : impl_calc_liftBefore_k1 false (tab n p) x (p 0) (flr x - flr (p 0).2, 1) (flr x - flr (p 0).2 - 1) = some v := e2
        rw [e6, ← e3]
        simp only [Option.bind_some]
        cases v.2 <;> rfl
theorem laws_FnExactLiftBefore_eq (f : List Pt) (x : Rt) (hl : f.length ≤ 9223372036854775807) : laws_FnExactLiftBefore f x = some true := by
  obtain ⟨v, h1, h2⟩ := laws_szLift_eq f hl
  unfold laws_FnExactLiftBefore
  rw [h1, Option.bind_some]
  by_cases h : v < 0
  · simp [h]
  · have hm := h2 h
    obtain ⟨r, e1, e2⟩ := both_LiftBefore f x (by omega)
    simp only [h, decide_false, Bool.false_eq_true, if_false, laws_toLift_eq f (by omega), laws_toRat, e1, e2, laws_eqRat_self, laws_eqLift_self f (by omega), Option.bind_some]
    simp
end Go.PV

/-
  Plain laws: what fractions stand for.
  Conditions: none.
-/
set_option linter.all false
namespace Go.PV
/-- The number that a fraction stands for. -/
def val (r : Rt) : Rat := (r.1 : Rat) / (r.2 : Rat)
theorem cast_pos {d : Int} (h : 0 < d) : (0 : Rat) < (d : Rat) := by exact_mod_cast h
theorem val_mul {r : Rt} (h : 0 < r.2) : val r * (r.2 : Rat) = (r.1 : Rat) := by
  have := cast_pos h
  unfold val
  have h2 : (r.2 : Rat) ≠ 0 := by intro h3; rw [h3] at this; exact absurd this (by decide)
  grind
theorem lt_iff {a b c d : Int} (hb : 0 < b) (hd : 0 < d) {x y : Rat} (hx : x * (b : Rat) = (a : Rat)) (hy : y * (d : Rat) = (c : Rat)) : a * d < c * b ↔ x < y := by
  have pb := cast_pos hb
  have pd := cast_pos hd
  have e : ((a * d : Int) : Rat) < ((c * b : Int) : Rat) ↔ a * d < c * b := by exact_mod_cast Iff.rfl
  rw [← e, Rat.intCast_mul, Rat.intCast_mul, ← hx, ← hy]
  constructor
  · intro h
    refine Classical.byContradiction fun hno => ?_
    have h1 : y ≤ x := by grind
    have h2 := Rat.mul_le_mul_of_nonneg_left h1 (Rat.le_of_lt (Rat.mul_pos pb pd))
    grind
  · intro h
    have h2 := Rat.mul_lt_mul_of_pos_left h (Rat.mul_pos pb pd)
    grind
theorem less_val {a b : Rt} (ha : 0 < a.2) (hb : 0 < b.2) : less a b = true ↔ val a < val b := by
  rw [← lt_iff ha hb (val_mul ha) (val_mul hb)]
  simp [less]
theorem less_val_no {a b : Rt} (ha : 0 < a.2) (hb : 0 < b.2) : less a b = false ↔ val b ≤ val a := by
  have := less_val ha hb
  cases h : less a b
  · rw [h] at this
    have : ¬ val a < val b := fun h1 => by have := this.2 h1; cases this
    exact ⟨fun _ => by grind, fun _ => rfl⟩
  · rw [h] at this
    have := this.1 rfl
    exact ⟨fun h => (by cases h), fun h => (by grind)⟩
theorem lowQ_val {n d : Int} (hd : 0 < d) {r : Rt} (h : lowQ n d = some r) : val r * (d : Rat) = (n : Rat) := by
  obtain ⟨e, hp⟩ := lowQ_eq hd h
  have h2 := val_mul (r := r) (by omega)
  have p2 := cast_pos (d := r.2) (by omega)
  have pd := cast_pos hd
  have e2 : (r.1 : Rat) * (d : Rat) = (n : Rat) * (r.2 : Rat) := by exact_mod_cast e
  have h3 : (r.2 : Rat) ≠ 0 := by intro h3; rw [h3] at p2; exact absurd p2 (by decide)
  rw [← h2] at e2
  grind
theorem ne0 {d : Int} (h : 0 < d) : (d : Rat) ≠ 0 := by
  have := cast_pos h
  intro h3; rw [h3] at this; exact absurd this (by decide)
section
variable {a b r : Rt} (ha : isRat a = true) (hb : isRat b = true)
include ha hb
theorem addQ_val (h : addQ a b = some r) : val r = val a + val b := by
  have a2 := (isRat_iff.1 ha).1
  have b2 := (isRat_iff.1 hb).1
  have e := lowQ_val (den_pos ha hb) h
  have e1 := val_mul (r := a) (by omega)
  have e2 := val_mul (r := b) (by omega)
  have n1 := ne0 (d := a.2) (by omega)
  have n2 := ne0 (d := b.2) (by omega)
  rw [Rat.intCast_add, Rat.intCast_mul, Rat.intCast_mul, Rat.intCast_mul, ← e1, ← e2] at e
  grind
theorem subQ_val (h : subQ a b = some r) : val r = val a - val b := by
  have a2 := (isRat_iff.1 ha).1
  have b2 := (isRat_iff.1 hb).1
  have e := lowQ_val (den_pos ha hb) h
  have e1 := val_mul (r := a) (by omega)
  have e2 := val_mul (r := b) (by omega)
  have n1 := ne0 (d := a.2) (by omega)
  have n2 := ne0 (d := b.2) (by omega)
  rw [Rat.intCast_sub, Rat.intCast_mul, Rat.intCast_mul, Rat.intCast_mul, ← e1, ← e2] at e
  grind
theorem mulQ_val (h : mulQ a b = some r) : val r = val a * val b := by
  have a2 := (isRat_iff.1 ha).1
  have b2 := (isRat_iff.1 hb).1
  have e := lowQ_val (den_pos ha hb) h
  have e1 := val_mul (r := a) (by omega)
  have e2 := val_mul (r := b) (by omega)
  have n1 := ne0 (d := a.2) (by omega)
  have n2 := ne0 (d := b.2) (by omega)
  rw [Rat.intCast_mul, Rat.intCast_mul, ← e1, ← e2] at e
  grind
theorem divQ_val (hp : 0 < b.1) (h : divQ a b = some r) : val r * val b = val a := by
  have a2 := (isRat_iff.1 ha).1
  have b2 := (isRat_iff.1 hb).1
  unfold divQ at h
  rw [if_neg (by omega)] at h
  have e := lowQ_val (Int.mul_pos (by omega) hp) h
  have e1 := val_mul (r := a) (by omega)
  have e2 := val_mul (r := b) (by omega)
  have n1 := ne0 (d := a.2) (by omega)
  have n2 := ne0 (d := b.2) (by omega)
  rw [Rat.intCast_mul, Rat.intCast_mul, ← e1, ← e2] at e
  grind
end
theorem unit_val {r : Rt} (hr : isRat r = true) : isUnit r = true ↔ (0 : Rat) ≤ val r ∧ val r ≤ 1 := by
  have r2 := (isRat_iff.1 hr).1
  have e := val_mul (r := r) (by omega)
  have p := cast_pos (d := r.2) (by omega)
  simp only [isUnit, Bool.and_eq_true, inB_iff, hr, true_and]
  have h1 := lt_iff (a := r.1) (b := r.2) (c := 0) (d := 1) (x := val r) (y := 0) (by omega) (by omega) e (by simp)
  have h2 := lt_iff (a := 1) (b := 1) (c := r.1) (d := r.2) (x := 1) (y := val r) (by omega) (by omega) (by simp) e
  constructor
  · intro ⟨h3, h4⟩
    constructor
    · refine Classical.byContradiction fun hno => ?_
      have := h1.2 (by grind)
      omega
    · refine Classical.byContradiction fun hno => ?_
      have := h2.2 (by grind)
      omega
  · intro ⟨h3, h4⟩
    constructor
    · refine Classical.byContradiction fun hno => ?_
      have := h1.1 (by omega)
      grind
    · refine Classical.byContradiction fun hno => ?_
      have := h2.1 (by omega)
      grind
end Go.PV

/-
  Plain laws: the laps of a map.
  Conditions: none.
-/
set_option linter.all false
namespace Go.PV
/-- A lap: where it begins, where it ends, which way it goes. -/
abbrev Trip := Nat × Nat × Int
def encT (t : Trip) : List Int := [(t.1 : Int), (t.2.1 : Int), t.2.2]
def lapStep (l : List Trip) (i : Nat) (s : Int) : List Trip := match l.getLast? with
  | some t => if t.2.2 = s then l.dropLast ++ [(t.1, i + 1, s)] else l ++ [(i, i + 1, s)]
  | none => l ++ [(i, i + 1, s)]
def lapsN (σ : Nat → Int) : Nat → List Trip
  | 0 => []
  | i + 1 => lapStep (lapsN σ i) i (σ i)
theorem lapStep_nil (i : Nat) (s : Int) : lapStep [] i s = [(i, i + 1, s)] := rfl
theorem lapStep_app (l : List Trip) (t : Trip) (i : Nat) (s : Int) : lapStep (l ++ [t]) i s = if t.2.2 = s then l ++ [(t.1, i + 1, s)] else l ++ [t] ++ [(i, i + 1, s)] := by
  unfold lapStep
  simp
theorem snoc_cases {α : Type} (l : List α) : l = [] ∨ ∃ l' x, l = l' ++ [x] := by
  rcases List.eq_nil_or_concat l with h | ⟨l', x, h⟩
  · exact .inl h
  · exact .inr ⟨l', x, by rw [h, List.concat_eq_append]⟩
structure LapInv (σ : Nat → Int) (i : Nat) : Prop where
  len : (lapsN σ i).length ≤ i
  ne : 0 < i → lapsN σ i ≠ []
  bd : ∀ t ∈ lapsN σ i, t.1 < t.2.1 ∧ t.2.1 ≤ i
theorem lap_inv (σ : Nat → Int) : ∀ i, LapInv σ i
  | 0 => ⟨by simp [lapsN], by omega, by simp [lapsN]⟩
  | i + 1 => by
    have ih := lap_inv σ i
    have hl := ih.len
    have hb := ih.bd
    rcases snoc_cases (lapsN σ i) with h | ⟨l, t, h⟩
    · have e : lapsN σ (i + 1) = [(i, i + 1, σ i)] := by simp only [lapsN, h, lapStep_nil]
      exact ⟨by rw [e]; simp, fun _ => by rw [e]; simp, by rw [e]; simp⟩
    · rw [h] at hl hb
      have e : lapsN σ (i + 1) = if t.2.2 = σ i then l ++ [(t.1, i + 1, σ i)] else l ++ [t] ++ [(i, i + 1, σ i)] := by simp only [lapsN, h, lapStep_app]
      have ht := hb t (by simp)
      have hbl : ∀ t' ∈ l, t'.1 < t'.2.1 ∧ t'.2.1 ≤ i + 1 := fun t' h' => by have := hb t' (by simp [h']); omega
      simp at hl
      by_cases hs : t.2.2 = σ i
      · rw [if_pos hs] at e
        refine ⟨by rw [e]; simp; omega, fun _ => by rw [e]; simp, fun t' h' => ?_⟩
        rw [e] at h'
        rcases List.mem_append.1 h' with h' | h'
        · exact hbl t' h'
        · simp at h'; subst h'; exact ⟨by show t.1 < i + 1; omega, Nat.le_refl _⟩
      · rw [if_neg hs] at e
        refine ⟨by rw [e]; simp; omega, fun _ => by rw [e]; simp, fun t' h' => ?_⟩
        rw [e] at h'
        rcases List.mem_append.1 h' with h' | h'
        · rcases List.mem_append.1 h' with h' | h'
          · exact hbl t' h'
          · simp at h'; subst h'; omega
        · simp at h'; subst h'; exact ⟨Nat.lt_succ_self i, Nat.le_refl _⟩
def sg (n : Int) : Int := if 0 < n then 1 else if n < 0 then -1 else 0
theorem spec_l1Sign_eq (n : Int) : spec_l1Sign n = some (sg n) := by
  unfold spec_l1Sign sg
  by_cases h : 0 < n
  · simp [h]
  · by_cases h2 : n < 0 <;> simp [h, h2]
theorem impl_sign_eq (s : Rt) (h : isRat s = true) : impl_sign s = some (sg s.1) := by
  unfold impl_sign impl_zero sg
  rw [Option.bind_some, impl_compare_eq s (0, 1) (tame_of h) ⟨by decide, by decide, by decide, by decide⟩, Option.bind_some]
  unfold cmp
  simp only [Int.mul_one, Int.zero_mul]
  by_cases h1 : s.1 < 0
  · have : ¬ 0 < s.1 := by omega
    simp [h1, this]
  · by_cases h2 : 0 < s.1 <;> simp [h1, h2]
section
variable {m : Nat} {r : Nat → Rt}
theorem last_get (l : List Trip) (t : Trip) : ((l ++ [t]).map encT)[l.length]? = some (encT t) := by simp
theorem last_set (l : List Trip) (t : Trip) (x : List Int) : ((l ++ [t]).map encT).set l.length x = l.map encT ++ [x] := by
  rw [List.map_append, List.set_append]
  simp
theorem impl_laps_step (hm : m ≤ 1048576) (hr : ∀ i, i < m → isRat (r i) = true) {i : Nat} (hi : i < m) :
    impl_laps_b1 (tab m r) ((lapsN (fun k => sg (r k).1) i).map encT, (i : Int)) = some (.inl ((lapsN (fun k => sg (r k).1) (i + 1)).map encT, ((i + 1 : Nat) : Int))) := by
  have hinv := lap_inv (fun k => sg (r k).1) i
  have hl := hinv.len
  simp only [impl_laps_b1, tab_len, idxO_tab hi, show ((i : Int) < (m : Int)) from by omega, decide_true, if_true, Option.bind_some, w64_nat (show i < 9223372036854775807 by omega), impl_sign_eq (r i) (hr i hi)]
  rcases snoc_cases (lapsN (fun k => sg (r k).1) i) with h | ⟨l, t, h⟩
  · have e : lapsN (fun k => sg (r k).1) (i + 1) = [(i, i + 1, sg (r i).1)] := by simp only [lapsN, h, lapStep_nil]
    rw [h, e]
    have hw : w64 ((0 : Int) - 1) = -1 := by rw [w64_id (by omega) (by omega)]; rfl
    simp only [List.map_nil, List.length_nil, Int.natCast_zero, hw, show ¬ ((-1 : Int) ≥ 0) by omega, decide_false, Bool.false_eq_true, if_false, Option.bind_some]
    rw [guardO_bind_pos (by simp)]
    rfl
  · have e : lapsN (fun k => sg (r k).1) (i + 1) = if t.2.2 = sg (r i).1 then l ++ [(t.1, i + 1, sg (r i).1)] else l ++ [t] ++ [(i, i + 1, sg (r i).1)] := by simp only [lapsN, h, lapStep_app]
    rw [h] at hl
    simp at hl
    rw [h]
    have hw : w64 ((((l ++ [t]).map encT).length : Int) - 1) = ((l.length : Nat) : Int) := by
      rw [List.length_map, List.length_append, List.length_singleton, w64_id (by omega) (by omega)]; omega
    simp only [hw, show (((l.length : Nat) : Int) ≥ 0) by omega, decide_true, if_true, idxO_nat, last_get, Option.bind_some, Int.toNat_natCast, last_set]
    have e2 : idxO (encT t) 2 = some t.2.2 := rfl
    have e1 : idxO (encT t) 1 = some ((t.2.1 : Nat) : Int) := rfl
    rw [e2, e1, e]
    simp only [Option.bind_some]
    by_cases hs : t.2.2 = sg (r i).1
    · have hb : (t.2.2 == sg (r i).1) = true := by simpa using hs
      rw [hb, if_pos rfl, if_pos hs]
      simp only [encT, List.map_append, List.map_cons, List.map_nil, hs]
      rfl
    · have hb : (t.2.2 == sg (r i).1) = false := by simpa using hs
      rw [hb, if_neg hs]
      simp only [Bool.false_eq_true, if_false]
      rw [guardO_bind_pos (by simp; omega)]
      simp only [encT, List.map_append, List.map_cons, List.map_nil]
theorem spec_laps_step (hm : m ≤ 1048576) {i : Nat} (hi : i < m) :
    spec_imLaps_b1 (tab m r) ((lapsN (fun k => sg (r k).1) i).map encT, (i : Int)) = some (.inl ((lapsN (fun k => sg (r k).1) (i + 1)).map encT, ((i + 1 : Nat) : Int))) := by
  have hinv := lap_inv (fun k => sg (r k).1) i
  have hl := hinv.len
  simp only [spec_imLaps_b1, tab_len, idxO_tab hi, show ((i : Int) < (m : Int)) from by omega, decide_true, if_true, Option.bind_some, w64_nat (show i < 9223372036854775807 by omega), spec_l1Sign_eq]
  rcases snoc_cases (lapsN (fun k => sg (r k).1) i) with h | ⟨l, t, h⟩
  · have e : lapsN (fun k => sg (r k).1) (i + 1) = [(i, i + 1, sg (r i).1)] := by simp only [lapsN, h, lapStep_nil]
    rw [h, e]
    simp only [List.map_nil, List.length_nil, Int.natCast_zero, show ¬ ((0 : Int) > 0) by omega, decide_false, Bool.false_eq_true, if_false, Option.bind_some]
    rw [guardO_bind_pos (by simp)]
    rfl
  · have e : lapsN (fun k => sg (r k).1) (i + 1) = if t.2.2 = sg (r i).1 then l ++ [(t.1, i + 1, sg (r i).1)] else l ++ [t] ++ [(i, i + 1, sg (r i).1)] := by simp only [lapsN, h, lapStep_app]
    rw [h] at hl
    simp at hl
    rw [h]
    have hw : w64 ((((l ++ [t]).map encT).length : Int) - 1) = ((l.length : Nat) : Int) := by
      rw [List.length_map, List.length_append, List.length_singleton, w64_id (by omega) (by omega)]; omega
    have hp : ((((l ++ [t]).map encT).length : Int) > 0) := by
      rw [List.length_map, List.length_append, List.length_singleton]; omega
    simp only [hw, hp, decide_true, if_true, idxO_nat, last_get, Option.bind_some, Int.toNat_natCast, last_set]
    have e2 : idxO (encT t) 2 = some t.2.2 := rfl
    have e1 : idxO (encT t) 1 = some ((t.2.1 : Nat) : Int) := rfl
    rw [e2, e1, e]
    simp only [Option.bind_some]
    by_cases hs : t.2.2 = sg (r i).1
    · have hb : (t.2.2 == sg (r i).1) = true := by simpa using hs
      rw [hb, if_pos rfl, if_pos hs]
      simp only [encT, List.map_append, List.map_cons, List.map_nil, hs]
      rfl
    · have hb : (t.2.2 == sg (r i).1) = false := by simpa using hs
      rw [hb, if_neg hs]
      simp only [Bool.false_eq_true, if_false]
      rw [guardO_bind_pos (by simp; omega)]
      simp only [encT, List.map_append, List.map_cons, List.map_nil]
end
section
variable {n : Nat} {p : Nat → Pt}
def wayOf (p : Nat → Pt) : Nat → Int := fun i => sg (slopeQ (p i) (p (i + 1))).1
def lapsT (n : Nat) (p : Nat → Pt) : List Trip := lapsN (wayOf p) (n - 1)
theorem impl_laps_tab (h : isMapT n p) (h2 : 2 ≤ n) (hn : n ≤ 12) : impl_laps (tab n p) = some ((lapsT n p).map encT) := by
  have hx := loop_idx (body := impl_laps_b1 (slopesT n p)) (n - 1) (fun i => ((lapsN (wayOf p) i).map encT, (i : Int))) ((lapsT n p).map encT) (fun i hi =>
    impl_laps_step (m := n - 1) (r := fun i => slopeQ (p i) (p (i + 1))) (by omega) (fun i hi => by obtain ⟨u, v, hs⟩ := piece_ok h (i := i) (by omega); exact hs.rs) hi) (by
    simp [impl_laps_b1, slopesT, tab_len, lapsT])
  unfold impl_laps
  rw [impl_slopes_tab h h2 hn, Option.bind_some, show (0 : Int) = ((0 : Nat) : Int) from rfl]
  simp only [lapsN, List.map_nil] at hx
  rw [hx]; rfl
theorem spec_imLaps_tab (h : isMapT n p) (h2 : 2 ≤ n) (hn : n ≤ 12) : spec_imLaps (tab n p) = some ((lapsT n p).map encT) := by
  have hx := loop_idx (body := spec_imLaps_b1 (slopesT n p)) (n - 1) (fun i => ((lapsN (wayOf p) i).map encT, (i : Int))) ((lapsT n p).map encT) (fun i hi =>
    spec_laps_step (m := n - 1) (r := fun i => slopeQ (p i) (p (i + 1))) (by omega) hi) (by
    simp [spec_imLaps_b1, slopesT, tab_len, lapsT])
  unfold spec_imLaps
  rw [spec_imSlopes_tab h h2 hn, Option.bind_some, show (0 : Int) = ((0 : Nat) : Int) from rfl]
  simp only [lapsN, List.map_nil] at hx
  rw [hx]; rfl
theorem lapsT_len (h2 : 2 ≤ n) : 1 ≤ (lapsT n p).length ∧ (lapsT n p).length ≤ n - 1 := by
  have h := lap_inv (wayOf p) (n - 1)
  have h1 := h.len
  have h3 := h.ne (by omega)
  unfold lapsT
  have := List.length_pos_iff.2 h3
  omega
end
/-! ### the bound on laps -/
def lbN (c : Int) : Nat → Int → Int × Bool
  | 0, o => (o, true)
  | k + 1, o => if o * c > 1000000000 then (0, false) else lbN c k (o * c)
theorem impl_lb (xs : List (List Int)) (hx : xs.length ≤ 12) (n : Nat) (hn : n ≤ 12) : ∀ k o, k ≤ n → 0 ≤ o → o ≤ 1000000000 →
    (loopO (impl_LapBound_b1 (n : Int) xs) (o, ((n - k : Nat) : Int))).bind (fun y8 => (Sum.elim (fun p => some p) (fun p => impl_LapBound_k1 p)) y8) = some (lbN xs.length k o)
  | 0, o, _, _, _ => by
    rw [loopO_eq]
    simp [impl_LapBound_b1, impl_LapBound_k1, lbN]
  | k + 1, o, hk, h0, h1 => by
    have hm : 0 ≤ o * (xs.length : Int) ∧ o * (xs.length : Int) ≤ 1000000000 * 12 := ⟨Int.mul_nonneg h0 (by omega), Int.mul_le_mul h1 (by omega) (by omega) (by omega)⟩
    rw [loopO_eq]
    have hlt : (((n - (k + 1) : Nat) : Int) < (n : Int)) := by omega
    simp only [impl_LapBound_b1, hlt, decide_true, if_true, w64_id (n := o * (xs.length : Int)) (by omega) (by omega), w64_nat (show n - (k + 1) < 9223372036854775807 by omega)]
    by_cases hb : o * (xs.length : Int) > 1000000000
    · simp [hb, lbN]
    · simp only [hb, decide_false, Bool.false_eq_true, if_false]
      rw [show n - (k + 1) + 1 = n - k by omega, impl_lb xs hx n hn k _ (by omega) hm.1 (by omega)]
      simp [lbN, hb]
theorem spec_lb (f : List Pt) (xs : List (List Int)) (hf : spec_imLaps f = some xs) (hx : xs.length ≤ 12) : ∀ (k : Nat) (o : Int), k ≤ 12 → 0 ≤ o → o ≤ 1000000000 →
    (loopO (spec_LapBound_b1 f) ((k : Int), o)).bind (fun y8 => (Sum.elim (fun p => some p) (fun p => spec_LapBound_k1 p)) y8) = some (lbN xs.length k o)
  | 0, o, _, _, _ => by
    rw [loopO_eq]
    simp [spec_LapBound_b1, spec_LapBound_k1, lbN]
  | k + 1, o, hk, h0, h1 => by
    have hm : 0 ≤ o * (xs.length : Int) ∧ o * (xs.length : Int) ≤ 1000000000 * 12 := ⟨Int.mul_nonneg h0 (by omega), Int.mul_le_mul h1 (by omega) (by omega) (by omega)⟩
    rw [loopO_eq]
    have hlt : (((k + 1 : Nat) : Int) > 0) := by omega
    simp only [spec_LapBound_b1, hlt, decide_true, if_true, hf, Option.bind_some, w64_id (n := o * (xs.length : Int)) (by omega) (by omega), w64_pred (show 0 < k + 1 by omega) (by omega), Nat.add_sub_cancel]
    by_cases hb : o * (xs.length : Int) > 1000000000
    · simp [hb, lbN]
    · simp only [hb, decide_false, Bool.false_eq_true, if_false]
      rw [spec_lb f xs hf hx k _ (by omega) hm.1 (by omega)]
      simp [lbN, hb]
theorem both_LapBound (f : List Pt) (k : Int) (hl : f.length ≤ 4611686018427387904) : ∃ r, spec_LapBound f k = some r ∧ impl_LapBound f k = some r := by
  obtain ⟨c, h1, h2, h3⟩ := both_isMap f hl
  unfold spec_LapBound impl_LapBound
  rw [h1, h2]
  cases c
  · exact ⟨_, rfl, rfl⟩
  · obtain ⟨n, p, rfl, h4, h5, hm⟩ := h3 rfl
    simp only [Option.bind_some, Bool.not_true, Bool.false_eq_true, if_false, spec_l1In_eq, impl_within_eq]
    cases hk : inB 0 12 k
    · exact ⟨_, rfl, rfl⟩
    · obtain ⟨k1, k2⟩ := inB_iff.1 hk
      obtain ⟨m, rfl⟩ := Int.eq_ofNat_of_zero_le k1
      have hlen := lapsT_len (n := n) (p := p) h4
      have h6 : ((lapsT n p).map encT).length ≤ 12 := by rw [List.length_map]; omega
      refine ⟨lbN ((lapsT n p).map encT).length m 1, ?_, ?_⟩
      · exact spec_lb (tab n p) _ (spec_imLaps_tab hm h4 h5) h6 m 1 (by omega) (by omega) (by omega)
      · simp only [Bool.not_true, Bool.false_eq_true, if_false, impl_laps_tab hm h4 h5, Option.bind_some]
        have := impl_lb _ h6 m (by omega) m 1 (Nat.le_refl _) (by omega) (by omega)
        rw [Nat.sub_self] at this
        exact this
theorem laws_FnExactLapBound_eq (f : List Pt) (k : Int) (hl : f.length ≤ 9223372036854775807) : laws_FnExactLapBound f k = some true := by
  obtain ⟨v, h1, h2⟩ := sz_points f hl
  unfold laws_FnExactLapBound
  rw [h1, Option.bind_some]
  by_cases h : v < 0
  · simp [h]
  · have hm := h2 h
    obtain ⟨r, e1, e2⟩ := both_LapBound f k (by omega)
    simp only [h, decide_false, Bool.false_eq_true, if_false, laws_toPointS_eq f (by omega), e1, e2, laws_eqPointS_self f (by omega), Option.bind_some]
    simp
/-! ### maps with two laps -/
theorem both_IsUnimodal (f : List Pt) (hl : f.length ≤ 4611686018427387904) : ∃ r, spec_IsUnimodal f = some r ∧ impl_IsUnimodal f = some r := by
  obtain ⟨c, b, h1, h2, h3, h4⟩ := both_strict f hl
  unfold spec_IsUnimodal impl_IsUnimodal
  rw [h1, h3]
  cases c
  · exact ⟨_, rfl, rfl⟩
  · obtain ⟨e1, n, p, rfl, h5, h6, hm, rfl⟩ := h4 rfl
    simp only [Option.bind_some, Bool.not_true, Bool.false_eq_true, if_false, e1, Bool.true_and] at h3 ⊢
    cases hb : strictB n p
    · exact ⟨_, rfl, rfl⟩
    · rw [hb] at h3
      simp only [Bool.not_true, Bool.false_eq_true, if_false, spec_imLaps_tab hm h5 h6, Option.bind_some, impl_isUnimodal, h3, impl_laps_tab hm h5 h6]
      by_cases hlen : ((((lapsT n p).map encT).length : Int) == 2) = true
      · have h7 : (lapsT n p).length = 2 := by rw [List.length_map] at hlen; simp only [beq_iff_eq] at hlen; omega
        obtain ⟨t, ht⟩ : ∃ t, (lapsT n p)[0]? = some t := ⟨(lapsT n p)[0], List.getElem?_eq_getElem (by omega)⟩
        have e0 : idxO ((lapsT n p).map encT) 0 = some (encT t) := by
          rw [show (0 : Int) = ((0 : Nat) : Int) from rfl, idxO_nat, List.getElem?_map, ht]; rfl
        have e2 : idxO (encT t) 2 = some t.2.2 := rfl
        rw [hlen, e0]
        simp only [if_true, Option.bind_some, e2]
        exact ⟨_, rfl, rfl⟩
      · have hlen' : ((((lapsT n p).map encT).length : Int) == 2) = false := by simpa using hlen
        rw [hlen']
        exact ⟨_, rfl, rfl⟩
theorem laws_FnExactIsUnimodal_eq (f : List Pt) (hl : f.length ≤ 9223372036854775807) : laws_FnExactIsUnimodal f = some true := by
  obtain ⟨v, h1, h2⟩ := sz_points f hl
  unfold laws_FnExactIsUnimodal
  rw [h1, Option.bind_some]
  by_cases h : v < 0
  · simp [h]
  · have hm := h2 h
    obtain ⟨r, e1, e2⟩ := both_IsUnimodal f (by omega)
    simp only [h, decide_false, Bool.false_eq_true, if_false, laws_toPointS_eq f (by omega), e1, e2, laws_eqPointS_self f (by omega), Option.bind_some]
    simp
/-! ### full laps -/
def fullB (a b : Rt) : Bool := (a == (0, 1) && b == (1, 1)) || (a == (1, 1) && b == (0, 1))
theorem impl_full_eq {a b : Rt} (ha : isRat a = true) (hb : isRat b = true) {α : Type} (k : Bool → Option α) :
    ((impl_lesser a b).bind fun v13 => (impl_zero).bind fun v14 => (if ((v13.1 == v14.1) && (v13.2 == v14.2)) = true then
        (impl_greater a b).bind fun v15 => (impl_oneRat).bind fun v16 => some ((v15.1 == v16.1) && (v15.2 == v16.2))
      else some false).bind k) = k (fullB a b) := by
  unfold impl_lesser impl_greater impl_zero impl_oneRat fullB
  rw [impl_less_eq b a (tame_of hb) (tame_of ha), impl_less_eq a b (tame_of ha) (tame_of hb)]
  simp only [Option.bind_some]
  have h01 : less (0, 1) (1, 1) = true := by decide
  have h10 : less (1, 1) (0, 1) = false := by decide
  have n01 : (((0, 1) : Rt) == ((1, 1) : Rt)) = false := by decide
  cases h1 : less b a
  · simp only [Bool.false_eq_true, if_false, Option.bind_some, pair_beq a (0, 1)]
    by_cases ha0 : a = (0, 1)
    · subst ha0
      simp only [beq_self_eq_true, if_true]
      cases h2 : less (0, 1) b
      · have hb1 : b ≠ (1, 1) := by rintro rfl; rw [h01] at h2; cases h2
        have e1 : (b == ((1, 1) : Rt)) = false := by simpa using hb1
        simp [e1, n01]
      · simp only [if_true, Option.bind_some, n01, Bool.false_and, Bool.or_false, Bool.true_and, pair_beq b (1, 1)]
    · have e0 : (a == ((0, 1) : Rt)) = false := by simpa using ha0
      have e2 : (a == ((1, 1) : Rt) && b == ((0, 1) : Rt)) = false := by
        cases h3 : (a == ((1, 1) : Rt)) <;> cases h4 : (b == ((0, 1) : Rt)) <;> try rfl
        simp only [beq_iff_eq] at h3 h4
        rw [h3, h4, h01] at h1; cases h1
      simp [e0, e2]
  · have h2 := less_le h1
    simp only [if_true, Option.bind_some, pair_beq b (0, 1), h2, Bool.false_eq_true, if_false, pair_beq a (1, 1)]
    have e2 : (a == ((0, 1) : Rt) && b == ((1, 1) : Rt)) = false := by
      cases h3 : (a == ((0, 1) : Rt)) <;> cases h4 : (b == ((1, 1) : Rt)) <;> try rfl
      simp only [beq_iff_eq] at h3 h4
      rw [h3, h4, h01] at h2; cases h2
    rw [e2]
    cases (b == ((0, 1) : Rt)) <;> simp
theorem spec_full_eq (a b : Rt) {α : Type} (k : Bool → Option α) :
    ((spec_raInt 0).bind fun v13 => (if ((a.1 == v13.1) && (a.2 == v13.2)) = true then
        (spec_raInt 1).bind fun v14 => if ((b.1 == v14.1) && (b.2 == v14.2)) = true then some true
        else (spec_raInt 1).bind fun v15 => if ((a.1 == v15.1) && (a.2 == v15.2)) = true then (spec_raInt 0).bind fun v16 => some ((b.1 == v16.1) && (b.2 == v16.2)) else some false
      else (spec_raInt 1).bind fun v14 => if ((a.1 == v14.1) && (a.2 == v14.2)) = true then (spec_raInt 0).bind fun v15 => some ((b.1 == v15.1) && (b.2 == v15.2)) else some false).bind k) = k (fullB a b) := by
  unfold spec_raInt fullB
  simp only [Option.bind_some, pair_beq a (0, 1), pair_beq b (1, 1), pair_beq a (1, 1), pair_beq b (0, 1)]
  cases (a == ((0, 1) : Rt)) <;> cases (b == ((1, 1) : Rt)) <;> cases (a == ((1, 1) : Rt)) <;> simp
section
variable {n : Nat} {p : Nat → Pt}
def fullN (p : Nat → Pt) (l : List Trip) : Nat := (l.filter fun t => fullB (p t.1).2 (p t.2.1).2).length
theorem fullN_succ (l : List Trip) (i : Nat) (t : Trip) (h : l[i]? = some t) : fullN p (l.take (i + 1)) = fullN p (l.take i) + (if fullB (p t.1).2 (p t.2.1).2 = true then 1 else 0) := by
  have h1 : l.take (i + 1) = l.take i ++ [t] := by rw [List.take_add_one, h]; rfl
  unfold fullN
  rw [h1, List.filter_append, List.length_append]
  congr 1
  by_cases hf : fullB (p t.1).2 (p t.2.1).2 = true <;> simp [hf]
theorem fullN_le (l : List Trip) : fullN p l ≤ l.length := List.length_filter_le ..
theorem full_step (hm : isMapT n p) (hn : n ≤ 12) (h2 : 2 ≤ n) {i : Nat} (hi : i < (lapsT n p).length) :
    impl_FullLaps_b1 (tab n p) ((lapsT n p).map encT) ((fullN p ((lapsT n p).take i) : Int), (i : Int)) = some (.inl ((fullN p ((lapsT n p).take (i + 1)) : Int), ((i + 1 : Nat) : Int))) ∧
    spec_FullLaps_b1 (tab n p) ((lapsT n p).map encT) ((fullN p ((lapsT n p).take i) : Int), (i : Int)) = some (.inl ((fullN p ((lapsT n p).take (i + 1)) : Int), ((i + 1 : Nat) : Int))) := by
  obtain ⟨t, ht⟩ : ∃ t, (lapsT n p)[i]? = some t := ⟨_, List.getElem?_eq_getElem hi⟩
  have hb := (lap_inv (wayOf p) (n - 1)).bd t (List.mem_of_getElem? ht)
  have hlen := lapsT_len (n := n) (p := p) h2
  have hle := fullN_le (p := p) ((lapsT n p).take i)
  rw [List.length_take] at hle
  have e0 : idxO ((lapsT n p).map encT) (i : Int) = some (encT t) := by rw [idxO_nat, List.getElem?_map, ht]; rfl
  have e1 : idxO (encT t) 0 = some ((t.1 : Nat) : Int) := rfl
  have e2 : idxO (encT t) 1 = some ((t.2.1 : Nat) : Int) := rfl
  have h3 : t.1 < n := by omega
  have h4 : t.2.1 < n := by omega
  have ra := coord_rat (hm.1 t.1 h3).2
  have rb' := coord_rat (hm.1 t.2.1 h4).2
  rw [fullN_succ _ _ _ ht]
  constructor
  · simp only [impl_FullLaps_b1, List.length_map, show ((i : Int) < ((lapsT n p).length : Int)) from by omega, decide_true, if_true, e0, e1, e2, Option.bind_some, idxO_tab h3, idxO_tab h4, w64_nat (show i < 9223372036854775807 by omega), w64_nat (show fullN p ((lapsT n p).take i) < 9223372036854775807 by omega)]
    rw [impl_full_eq ra rb']
    cases fullB (p t.1).2 (p t.2.1).2 <;> simp
  · simp only [spec_FullLaps_b1, List.length_map, show ((i : Int) < ((lapsT n p).length : Int)) from by omega, decide_true, if_true, e0, e1, e2, Option.bind_some, idxO_tab h3, idxO_tab h4, w64_nat (show i < 9223372036854775807 by omega), w64_nat (show fullN p ((lapsT n p).take i) < 9223372036854775807 by omega)]
    rw [spec_full_eq]
    cases fullB (p t.1).2 (p t.2.1).2 <;> simp
end
theorem both_FullLaps (f : List Pt) (hl : f.length ≤ 4611686018427387904) : ∃ r, spec_FullLaps f = some r ∧ impl_FullLaps f = some r := by
  obtain ⟨c, h1, h2, h3⟩ := both_isMap f hl
  unfold spec_FullLaps impl_FullLaps
  rw [h1, h2]
  cases c
  · exact ⟨_, rfl, rfl⟩
  · obtain ⟨n, p, rfl, h4, h5, hm⟩ := h3 rfl
    simp only [Option.bind_some, Bool.not_true, Bool.false_eq_true, if_false, spec_imLaps_tab hm h4 h5, impl_laps_tab hm h4 h5]
    have hx := loop_idx (body := impl_FullLaps_b1 (tab n p) ((lapsT n p).map encT)) (lapsT n p).length (fun i => ((fullN p ((lapsT n p).take i) : Int), (i : Int))) (fullN p (lapsT n p) : Int) (fun i hi => (full_step hm h5 h4 hi).1) (by simp [impl_FullLaps_b1])
    have hy := loop_idx (body := spec_FullLaps_b1 (tab n p) ((lapsT n p).map encT)) (lapsT n p).length (fun i => ((fullN p ((lapsT n p).take i) : Int), (i : Int))) (fullN p (lapsT n p) : Int) (fun i hi => (full_step hm h5 h4 hi).2) (by simp [spec_FullLaps_b1])
    have e0 : ((fullN p ((lapsT n p).take 0) : Int), ((0 : Nat) : Int)) = (0, 0) := by simp [fullN]
    rw [e0] at hx hy
    rw [hx, hy]
    exact ⟨_, rfl, rfl⟩
theorem laws_FnExactFullLaps_eq (f : List Pt) (hl : f.length ≤ 9223372036854775807) : laws_FnExactFullLaps f = some true := by
  obtain ⟨v, h1, h2⟩ := sz_points f hl
  unfold laws_FnExactFullLaps
  rw [h1, Option.bind_some]
  by_cases h : v < 0
  · simp [h]
  · have hm := h2 h
    obtain ⟨r, e1, e2⟩ := both_FullLaps f (by omega)
    simp only [h, decide_false, Bool.false_eq_true, if_false, laws_toPointS_eq f (by omega), e1, e2, laws_eqPointS_self f (by omega), Option.bind_some]
    simp
end Go.PV

/-
  Plain laws: marks on lists, and that they are held.
  Conditions: none.
-/
set_option linter.all false
namespace Go.PV
section
variable {α : Type}
theorem idxO_set {l : List α} {i : Nat} {x : α} (h : i < l.length) : idxO (l.set i x) (i : Int) = some x := by
  rw [idxO_nat, List.getElem?_set]; simp [h]
/-- Marks: the list with f c, f (c + w), .. -/
def marks (w : Nat) (f : Int → α) (n : Nat) (k : Int) : List α := tab n fun i => f (k + (w : Int) * i)
theorem marks_len (w : Nat) (f : Int → α) (n : Nat) (k : Int) : (marks w f n k).length = n := tab_len _ _
theorem mark_loop {body : (List α × Int × Int) → Option ((List α × Int × Int) ⊕ (List α × Int))} (w : Nat) (f : Int → α) (xs : List α) (k : Int) (hk : 0 ≤ k) (hk2 : k + w * xs.length ≤ 4611686018427387904)
    (h : ∀ (l : List α) (i : Nat) (c : Int), i < l.length → i < 4611686018427387904 → 0 ≤ c → c + w ≤ 4611686018427387904 → body (l, c, (i : Int)) = some (.inl (l.set i (f c), c + w, ((i + 1 : Nat) : Int))))
    (hl : xs.length ≤ 4611686018427387904) (h2 : ∀ l c, body (l, c, (l.length : Int)) = some (.inr (l, c))) : loopO body (xs, k, 0) = some (marks w f xs.length k, k + w * xs.length) := by
  have hx := loop_idx (body := body) xs.length (fun i => ((marks w f xs.length k).take i ++ xs.drop i, k + (w : Int) * i, (i : Int))) (marks w f xs.length k, k + w * xs.length) (fun i hi => by
    have hb : (w : Int) * i + w ≤ w * xs.length := by
      have : (w : Int) * ((i + 1 : Nat) : Int) ≤ w * xs.length := Int.mul_le_mul_of_nonneg_left (by omega) (by omega)
      rw [Int.natCast_add, Int.mul_add] at this
      simpa using this
    have hb0 : 0 ≤ (w : Int) * i := Int.mul_nonneg (by omega) (by omega)
    rw [h _ i _ (by simp [marks_len]; omega) (by omega) (by omega) (by omega)]
    rw [set_at _ _ _ (f (k + (w : Int) * i)) (by unfold marks; rw [tab_get hi]) hi]
    congr 3
    rw [Int.natCast_add, Int.mul_add]
    simp
    omega) (by
    have e : (marks w f xs.length k).take xs.length ++ xs.drop xs.length = marks w f xs.length k := by
      rw [List.drop_of_length_le (Nat.le_refl _), List.append_nil, List.take_of_length_le (by rw [marks_len]; exact Nat.le_refl _)]
    rw [e]
    have := h2 (marks w f xs.length k) (k + w * xs.length)
    rw [marks_len] at this
    exact this)
  simpa using hx
theorem held_loop {Y : Type} {body : (Int × Int) → Option ((Int × Int) ⊕ (Y ⊕ Int))} (w : Nat) (n : Nat) (k : Int) (hk : 0 ≤ k) (hk2 : k + w * n ≤ 4611686018427387904) (hn : n ≤ 4611686018427387904)
    (h : ∀ (i : Nat), i < n → 0 ≤ k + (w : Int) * i → k + (w : Int) * i + w ≤ 4611686018427387904 → body (k + (w : Int) * i, (i : Int)) = some (.inl (k + (w : Int) * i + w, ((i + 1 : Nat) : Int))))
    (h2 : ∀ c, body (c, (n : Int)) = some (.inr (.inr c))) : loopO body (k, 0) = some (.inr (k + w * n)) := by
  have hx := loop_idx (body := body) n (fun i => (k + (w : Int) * i, (i : Int))) (.inr (k + w * n)) (fun i hi => by
    have hb : (w : Int) * i + w ≤ w * n := by
      have : (w : Int) * ((i + 1 : Nat) : Int) ≤ w * n := Int.mul_le_mul_of_nonneg_left (by omega) (by omega)
      rw [Int.natCast_add, Int.mul_add] at this
      simpa using this
    have hb0 : 0 ≤ (w : Int) * i := Int.mul_nonneg (by omega) (by omega)
    rw [h i hi (by omega) (by omega)]
    congr 3
    rw [Int.natCast_add, Int.mul_add]
    simp
    omega) (h2 _)
  simpa using hx
end
/-! ### numbers -/
def markI (n : Nat) (k : Int) : List Int := marks 1 (fun c => c) n k
theorem laws_markIntS_eq (xs : List Int) (k : Int) (hk : 0 ≤ k) (hk2 : k + xs.length ≤ 4611686018427387904) : laws_markIntS xs k = some (k + xs.length, markI xs.length k) := by
  unfold laws_markIntS
  rw [mark_loop 1 (fun c => c) xs k hk (by omega) (fun l i c h1 h3 h4 h5 => by
    simp only [laws_markIntS_b1, idxO_lt h1, Option.bind_some, show ((i : Int) < (l.length : Int)) from by omega, decide_true, if_true, Int.toNat_natCast, w64_nat (show i < 9223372036854775807 by omega), w64_id (n := c + 1) (by omega) (by omega)]
    rfl) (by omega) (fun l c => by simp [laws_markIntS_b1])]
  simp [laws_markIntS_k1, markI]
theorem laws_heldIntS_eq (n : Nat) (k : Int) (hk : 0 ≤ k) (hk2 : k + n ≤ 4611686018427387904) : laws_heldIntS (markI n k) k = some (k + n) := by
  unfold laws_heldIntS
  rw [held_loop (body := laws_heldIntS_b1 (markI n k)) 1 n k hk (by omega) (by omega) (fun i hi h3 h4 => by
    have e : idxO (markI n k) (i : Int) = some (k + ((1 : Nat) : Int) * (i : Int)) := by unfold markI marks; rw [idxO_tab hi]
    simp only [laws_heldIntS_b1, show (markI n k).length = n from marks_len _ _ _ _, e, Option.bind_some, show ((i : Int) < (n : Int)) from by omega, decide_true, if_true, w64_nat (show i < 9223372036854775807 by omega), bne_self_eq_false, Bool.false_eq_true, if_false, w64_id (n := k + ((1 : Nat) : Int) * (i : Int) + 1) (by omega) (by omega)]
    rfl) (fun c => by simp [laws_heldIntS_b1, show (markI n k).length = n from marks_len _ _ _ _])]
  simp [laws_heldIntS_k1]
theorem laws_markIntSS_eq (g : List (List Int)) (hg : sized g) : ∃ k' g', laws_markIntSS g 1 = some (k', g') ∧ 0 ≤ k' ∧ k' ≤ 1099511627777 := by
  obtain ⟨hl, hr⟩ := hg
  obtain ⟨y, h1, h2⟩ := loop_run (body := laws_markIntSS_b1) (fun x => ∃ i : Nat, x.2.2 = i ∧ i ≤ g.length ∧ x.1.length = g.length ∧ (∀ j, i ≤ j → x.1[j]? = g[j]?) ∧ 0 ≤ x.2.1 ∧ x.2.1 ≤ 1 + 1048576 * (i : Int)) (fun x => g.length - x.2.2.toNat) (fun y => 0 ≤ y.2 ∧ y.2 ≤ 1099511627777)
    (fun ⟨l, c, t⟩ ⟨i, e1, e2, e3, e4, e5, e6⟩ => by
      simp only at e1 e3 e4 e5 e6
      subst e1
      by_cases hi : i < g.length
      · left
        have hrow := hr g[i] (List.getElem_mem hi)
        have hli : i < l.length := by omega
        have hget : l[i] = g[i] := by
          have := e4 i (Nat.le_refl i)
          rw [List.getElem?_eq_getElem hli, List.getElem?_eq_getElem hi] at this
          exact Option.some.inj this
        refine ⟨(l.set i (markI g[i].length c), c + g[i].length, ((i + 1 : Nat) : Int)), ?_, ⟨i + 1, rfl, hi, by simpa using e3, fun j hj => ?_, by show 0 ≤ c + (g[i].length : Int); omega, by show c + (g[i].length : Int) ≤ _; omega⟩, by simp only [Int.toNat_natCast]; omega⟩
        · simp only [laws_markIntSS_b1, show ((i : Int) < (l.length : Int)) from by omega, decide_true, if_true, idxO_lt hli, hget, Option.bind_some, laws_markIntS_eq g[i] c e5 (by omega), Int.toNat_natCast, w64_nat (show i < 9223372036854775807 by omega)]
        · rw [List.getElem?_set_ne (by omega)]; exact e4 j (by omega)
      · right
        refine ⟨(l, c), by simp [laws_markIntSS_b1, show ¬ ((i : Int) < (l.length : Int)) by omega], e5, by show c ≤ _; omega⟩) (g, 1, 0) ⟨0, rfl, by omega, rfl, fun j _ => rfl, by show (0 : Int) ≤ 1; omega, by show (1 : Int) ≤ _; omega⟩
  refine ⟨y.2, y.1, ?_, h2⟩
  unfold laws_markIntSS
  rw [h1]
  rfl
/-! ### fractions -/
def markR (n : Nat) (k : Int) : List (Int × Int) := marks 2 (fun c => (c, c + 1)) n k
theorem laws_markRatS_eq (xs : List (Int × Int)) (k : Int) (hk : 0 ≤ k) (hk2 : k + 2 * xs.length ≤ 4611686018427387904) : laws_markRatS xs k = some (k + 2 * xs.length, markR xs.length k) := by
  unfold laws_markRatS
  rw [mark_loop 2 (fun c => (c, c + 1)) xs k hk (by omega) (fun l i c h1 h3 h4 h5 => by
    have h6 : ∀ x, i < (l.set i x).length := fun x => by simpa using h1
    simp only [laws_markRatS_b1, idxO_lt h1, idxO_set h1, List.set_set, Option.bind_some, show ((i : Int) < (l.length : Int)) from by omega, decide_true, if_true, Int.toNat_natCast, w64_nat (show i < 9223372036854775807 by omega), w64_id (n := c + 1) (by omega) (by omega), w64_id (n := c + 1 + 1) (by omega) (by omega)]
    congr 3
    simp; omega) (by omega) (fun l c => by simp [laws_markRatS_b1])]
  simp [laws_markRatS_k1, markR]
theorem laws_heldRatS_eq (n : Nat) (k : Int) (hk : 0 ≤ k) (hk2 : k + 2 * n ≤ 4611686018427387904) : laws_heldRatS (markR n k) k = some (k + 2 * n) := by
  unfold laws_heldRatS
  rw [held_loop (body := laws_heldRatS_b1 (markR n k)) 2 n k hk (by omega) (by omega) (fun i hi h3 h4 => by
    have e : idxO (markR n k) (i : Int) = some (k + ((2 : Nat) : Int) * (i : Int), k + ((2 : Nat) : Int) * (i : Int) + 1) := by unfold markR marks; rw [idxO_tab hi]
    simp only [laws_heldRatS_b1, show (markR n k).length = n from marks_len _ _ _ _, e, Option.bind_some, show ((i : Int) < (n : Int)) from by omega, decide_true, if_true, w64_nat (show i < 9223372036854775807 by omega), bne_self_eq_false, Bool.false_eq_true, if_false, w64_id (n := k + ((2 : Nat) : Int) * (i : Int) + 1) (by omega) (by omega), w64_id (n := k + ((2 : Nat) : Int) * (i : Int) + 1 + 1) (by omega) (by omega)]
    congr 3; simp; omega) (fun c => by simp [laws_heldRatS_b1, show (markR n k).length = n from marks_len _ _ _ _])]
  simp [laws_heldRatS_k1]
end Go.PV
