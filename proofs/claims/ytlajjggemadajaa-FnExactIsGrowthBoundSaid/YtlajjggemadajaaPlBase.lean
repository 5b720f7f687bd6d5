/-
  Plain laws: bounds, lists of numbers, vectors.
  Conditions: none.
-/
import Derived.Test.YtlajjggemadajaaPvPlain
import Derived.Test.YtlajjggemadajaaDf
set_option linter.all false
namespace Go.PV
def inB (a b n : Int) : Bool := decide (a ≤ n) && decide (n ≤ b)
theorem inB_iff {a b n : Int} : inB a b n = true ↔ a ≤ n ∧ n ≤ b := by simp [inB]
theorem spec_l1In_eq (v a b : Int) : spec_l1In v a b = some (inB a b v) := rfl
theorem impl_within_eq (v a b : Int) : impl_within v a b = some (inB a b v) := rfl
theorem spec_l1All_eq (xs : List Int) (a b : Int) (hl : xs.length ≤ 4611686018427387904) : spec_l1All xs a b = some (xs.all (inB a b)) := by
  have h := loop_any (xs := xs) (body := spec_l1All_b1 xs a b) (fun x => !inB a b x) (fun i => (i : Int)) (.inl false) (.inr ()) (fun i x hx => by
    have hi := getElem?_lt hx
    simp only [spec_l1All_b1, idxO_nat, hx, spec_l1In_eq, Option.bind_some, w64_nat (show i < 9223372036854775807 by omega), show ((i : Int) < (xs.length : Int)) from by omega, decide_true, if_true]
    cases inB a b x <;> rfl) (by simp [spec_l1All_b1])
  unfold spec_l1All
  rw [show (0 : Int) = ((0 : Nat) : Int) from rfl, h, List.any_eq_not_all_not]
  simp only [Bool.not_not]
  cases xs.all (inB a b) <;> rfl
def isVec (xs : List Int) : Bool := inB 1 8 xs.length && xs.all (inB 1 1000000)
theorem spec_gwVector_eq (xs : List Int) (hl : xs.length ≤ 4611686018427387904) : spec_gwVector xs = some (isVec xs) := by
  simp only [spec_gwVector, spec_l1In_eq, spec_l1All_eq xs _ _ hl, Option.bind_some, isVec]
  cases inB 1 8 xs.length <;> rfl
theorem spec_IsVector_eq (xs : List Int) (hl : xs.length ≤ 4611686018427387904) : spec_IsVector xs = some (isVec xs) := by
  simp only [spec_IsVector, spec_gwVector_eq xs hl, Option.bind_some]
theorem slices_IndexFunc_Lint_int_eq (xs : List Int) (f : Int → Option Bool) (p : Int → Bool) (hf : ∀ x, f x = some (p x)) (hl : xs.length ≤ 4611686018427387904) :
    slices_IndexFunc_Lint_int xs f = some (match xs.findIdx? p with | some i => (i : Int) | none => -1) := by
  have h := loop_first (xs := xs) (body := slices_IndexFunc_Lint_int_b1 xs f) p (fun i => (i : Int)) (fun i => .inl (i : Int)) (.inr ()) (fun i x hx => by
    have hi := getElem?_lt hx
    simp only [slices_IndexFunc_Lint_int_b1, idxO_nat, hx, hf, Option.bind_some, w64_nat (show i < 9223372036854775807 by omega), show ((i : Int) < (xs.length : Int)) from by omega, decide_true, if_true]
    cases p x <;> rfl) (by simp [slices_IndexFunc_Lint_int_b1])
  unfold slices_IndexFunc_Lint_int
  rw [show (0 : Int) = ((0 : Nat) : Int) from rfl, h]
  cases xs.findIdx? p <;> rfl
theorem slices_ContainsFunc_Lint_int_eq (xs : List Int) (f : Int → Option Bool) (p : Int → Bool) (hf : ∀ x, f x = some (p x)) (hl : xs.length ≤ 4611686018427387904) : slices_ContainsFunc_Lint_int xs f = some (xs.any p) := by
  simp only [slices_ContainsFunc_Lint_int, slices_IndexFunc_Lint_int_eq xs f p hf hl, Option.bind_some]
  cases h : xs.findIdx? p with
  | none =>
    have hn := List.findIdx?_eq_none_iff.1 h
    have : xs.any p = false := by simpa using hn
    simp [this]
  | some m =>
    obtain ⟨hm, hp, _⟩ := List.findIdx?_eq_some_iff_getElem.1 h
    have : xs.any p = true := by simp; exact ⟨xs[m], List.getElem_mem hm, hp⟩
    simp [this]
theorem impl_isVector_1_eq (x : Int) : impl_isVector_1 x = some (!inB 1 1000000 x) := by simp [impl_isVector_1, impl_within_eq]
theorem impl_isVector_eq (xs : List Int) (hl : xs.length ≤ 4611686018427387904) : impl_isVector xs = some (isVec xs) := by
  unfold impl_isVector
  rw [impl_within_eq, Option.bind_some, slices_ContainsFunc_Lint_int_eq xs (fun x0 => impl_isVector_1 x0) _ impl_isVector_1_eq hl]
  simp only [Option.bind_some, isVec, List.any_eq_not_all_not, Bool.not_not]
  cases inB 1 8 xs.length <;> rfl
theorem impl_IsVector_eq (xs : List Int) (hl : xs.length ≤ 4611686018427387904) : impl_IsVector xs = some (isVec xs) := by
  simp only [impl_IsVector, impl_isVector_eq xs hl, Option.bind_some]
theorem set_at {α : Type} (xs ys : List α) (i : Nat) (x : α) (hi : xs[i]? = some x) (hl : i < ys.length) : (xs.take i ++ ys.drop i).set i x = xs.take (i + 1) ++ ys.drop (i + 1) := by
  have h1 := getElem?_lt hi
  apply List.ext_getElem?
  intro j
  rw [List.getElem?_set]
  by_cases hj : i = j
  · subst hj
    have hlen : i < (xs.take i ++ ys.drop i).length := by simp; omega
    rw [if_pos rfl, if_pos hlen, List.getElem?_append_left (by simp; omega), List.getElem?_take_of_lt (by omega), hi]
  · rw [if_neg hj, List.getElem?_append, List.getElem?_append]
    simp only [List.length_take, List.getElem?_take, List.getElem?_drop]
    by_cases h2 : j < i
    · simp [show j < i + 1 by omega, h2, show min i xs.length = i by omega, show min (i + 1) xs.length = i + 1 by omega]
    · have h3 : ¬ j < i + 1 := by omega
      simp [h3, h2, show min i xs.length = i by omega, show min (i + 1) xs.length = i + 1 by omega]
      congr 1
      omega
theorem laws_toIntS_eq (xs : List Int) (hl : xs.length ≤ 1099511627776) : laws_toIntS xs = some xs := by
  have h := loop_idx (body := laws_toIntS_b1 xs) xs.length (fun i => (xs.take i ++ (List.replicate xs.length (0 : Int)).drop i, (i : Int))) xs (fun i hi => by
    have hlen : i < (xs.take i ++ (List.replicate xs.length (0 : Int)).drop i).length := by simp; omega
    simp only [laws_toIntS_b1, idxO_lt hi, idxO_lt hlen, Option.bind_some, w64_nat (show i < 9223372036854775807 by omega), show ((i : Int) < (xs.length : Int)) from by omega, decide_true, if_true, Int.toNat_natCast]
    rw [set_at _ _ _ _ (List.getElem?_eq_getElem hi) (by simpa using hi)]) (by simp [laws_toIntS_b1])
  unfold laws_toIntS
  rw [guardO_bind_pos (by omega)]
  simp only [List.take_zero, List.nil_append, List.drop_zero] at h
  rw [Int.toNat_natCast, show (0 : Int) = ((0 : Nat) : Int) from rfl]
  rw [show ((List.replicate xs.length ((0 : Nat) : Int)), ((0 : Nat) : Int)) = (List.replicate xs.length (0 : Int), ((0 : Nat) : Int)) from rfl, h]
  rfl
theorem laws_eqIntS_self (xs : List Int) (hl : xs.length ≤ 4611686018427387904) : laws_eqIntS xs xs = some true := by
  have h := loop_idx (body := laws_eqIntS_b1 xs xs) xs.length (fun i => (i : Int)) (.inr ()) (fun i hi => by
    simp only [laws_eqIntS_b1, idxO_lt hi, Option.bind_some, w64_nat (show i < 9223372036854775807 by omega), show ((i : Int) < (xs.length : Int)) from by omega, decide_true, if_true]
    simp) (by simp [laws_eqIntS_b1])
  unfold laws_eqIntS
  rw [show (0 : Int) = ((0 : Nat) : Int) from rfl, h]
  simp [laws_eqIntS_k1]
theorem laws_FnExactIsVector_eq (xs : List Int) : laws_FnExactIsVector xs = some true := by
  unfold laws_FnExactIsVector
  by_cases h : (xs.length : Int) > 1048576
  · simp [h]
  · have hl : xs.length ≤ 1048576 := by omega
    simp only [h, decide_false, Bool.false_eq_true, if_false, laws_toIntS_eq xs (by omega), spec_IsVector_eq xs (by omega), impl_IsVector_eq xs (by omega), laws_eqIntS_self xs (by omega), Option.bind_some]
    simp
end Go.PV
