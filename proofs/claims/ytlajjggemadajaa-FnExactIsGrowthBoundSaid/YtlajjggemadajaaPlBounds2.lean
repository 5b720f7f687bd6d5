/-
  Plain definitions of what the functions answer, and plain laws of them.
  Conditions: none.
-/
import Derived.Test.YtlajjggemadajaaPlBounds
set_option linter.all false
namespace Go.PV
theorem less_not {a b : Int × Int} (hl : less a b = true) : less b a = false := by
  simp only [less, decide_eq_true_eq, decide_eq_false_iff_not] at hl ⊢
  omega
def minStep (a b : Int × Int) : Int × Int := if less b a = true then b else a
def maxStep (a b : Int × Int) : Int × Int := if less a b = true then b else a
def mnN (r : Nat → Int × Int) (i : Nat) : Int × Int := foldN i (fun s j => minStep s (r j)) (r 0)
def mxN (r : Nat → Int × Int) (i : Nat) : Int × Int := foldN i (fun s j => maxStep s (r j)) (r 0)
theorem mnN_succ (r : Nat → Int × Int) (i : Nat) : mnN r (i + 1) = minStep (mnN r i) (r i) := by simp [mnN, foldN_succ]
theorem mxN_succ (r : Nat → Int × Int) (i : Nat) : mxN r (i + 1) = maxStep (mxN r i) (r i) := by simp [mxN, foldN_succ]
theorem less_self (a : Int × Int) : less a a = false := by simp [less]
theorem mnN_one (r : Nat → Int × Int) : mnN r 1 = r 0 := by simp [mnN, foldN, minStep, less_self]
theorem mxN_one (r : Nat → Int × Int) : mxN r 1 = r 0 := by simp [mxN, foldN, maxStep, less_self]
theorem mn_rat {r : Nat → Int × Int} {n : Nat} (h0 : isRat (r 0) = true) (h : ∀ i, i < n → isRat (r i) = true) : ∀ i, i ≤ n → isRat (mnN r i) = true ∧ isRat (mxN r i) = true
  | 0, _ => by simpa [mnN, mxN, foldN_zero] using h0
  | i + 1, hi => by
    have ih := mn_rat h0 h i (by omega)
    rw [mnN_succ, mxN_succ]
    unfold minStep maxStep
    refine ⟨?_, ?_⟩
    · split
      · exact h i (by omega)
      · exact ih.1
    · split
      · exact h i (by omega)
      · exact ih.2
theorem cmp_lt (a b : Int × Int) : decide (cmp a b < 0) = less a b := by
  unfold cmp less
  by_cases h1 : a.1 * b.2 < b.1 * a.2
  · simp [h1]
  · by_cases h2 : a.1 * b.2 > b.1 * a.2 <;> simp [h1, h2]
theorem spec_ivLess_eq (a b : Int × Int) (ha : isRat a = true) (hb : isRat b = true) : spec_ivLess a b = some (minStep a b) := by
  unfold spec_ivLess minStep
  rw [spec_raCmp_eq a b (tame_of ha) (tame_of hb), Option.bind_some, cmp_lt]
  cases h : less a b
  · simp only [Bool.false_eq_true, if_false]
    cases h2 : less b a
    · simp only [Bool.false_eq_true, if_false]
      congr 1
      refine (cmp_same ha hb ?_).symm
      simp only [less, decide_eq_false_iff_not] at h h2
      omega
    · rfl
  · rw [less_not h]; rfl
theorem spec_ivGreater_eq (a b : Int × Int) (ha : isRat a = true) (hb : isRat b = true) : spec_ivGreater a b = some (maxStep a b) := by
  unfold spec_ivGreater maxStep
  rw [spec_raCmp_eq a b (tame_of ha) (tame_of hb), Option.bind_some, cmp_lt]
  cases less a b <;> rfl

/-- The ratios. -/
def ratN (G : Nat → Nat → Int) (v : Nat → Int) (n i : Nat) : Int × Int := (lowest (dotN (G i) v n) (v i)).1
section
variable {n : Nat} {G : Nat → Nat → Int} {v : Nat → Int}
theorem ratN_rat (hn : n ≤ 8) (hG : ∀ i j, i < n → j < n → 0 ≤ G i j ∧ G i j ≤ 9) (hv : ∀ j, j < n → 1 ≤ v j ∧ v j ≤ 1000000) {i : Nat} (hi : i < n) : isRat (ratN G v n i) = true := by
  have b := dotN_bound n (Nat.le_refl n) (fun j hj => hG i j hi hj) hv
  have c := hv i hi
  exact lowest_isRat b.1 (by omega) c.1 (by omega)
theorem spec_gwRatios_eq (hn : n ≤ 8) (hG : ∀ i j, i < n → j < n → 0 ≤ G i j ∧ G i j ≤ 9) (hv : ∀ j, j < n → 1 ≤ v j ∧ v j ≤ 1000000) : spec_gwRatios (mat n n G) (tab n v) = some (tab n (ratN G v n)) := by
  have h := loop_idx (body := spec_gwRatios_b1 (tab n v) (tab n fun i => dotN (G i) v n)) n (fun i => (tab i (ratN G v n), (i : Int))) (tab n (ratN G v n)) (fun i hi => by
    have b := dotN_bound n (Nat.le_refl n) (fun j hj => hG i j hi hj) hv
    have c := hv i hi
    simp only [spec_gwRatios_b1, tab_len, idxO_tab hi, Option.bind_some, show ((i : Int) < (n : Int)) from by omega, decide_true, if_true, spec_raMake_eq _ _ b.1 (by omega) c.1 (by omega), w64_nat (show i < 9223372036854775807 by omega)]
    rw [guardO_bind_pos (by simp; omega), ← tab_succ i (ratN G v n)]
    rfl) (by simp [spec_gwRatios_b1, tab_len])
  unfold spec_gwRatios
  rw [spec_gwTimes_eq hn hG hv, Option.bind_some]
  have h' : loopO (spec_gwRatios_b1 (tab n v) (tab n fun i => dotN (G i) v n)) ([], 0) = some (tab n (ratN G v n)) := h
  rw [h']
  rfl
theorem spec_gwBounds_eq (h1 : 1 ≤ n) (hn : n ≤ 8) (hG : ∀ i j, i < n → j < n → 0 ≤ G i j ∧ G i j ≤ 9) (hv : ∀ j, j < n → 1 ≤ v j ∧ v j ≤ 1000000) :
    spec_gwBounds (mat n n G) (tab n v) = some (mnN (ratN G v n) n, mxN (ratN G v n) n) := by
  have hr : ∀ i, i < n → isRat (ratN G v n i) = true := fun i hi => ratN_rat hn hG hv hi
  generalize hR : ratN G v n = r at hr
  have h := loop_idx (body := spec_gwBounds_b1 (tab n r)) n (fun i => ((mnN r i).1, (mnN r i).2, (mxN r i).1, (mxN r i).2, (i : Int))) ((mnN r n).1, (mnN r n).2, (mxN r n).1, (mxN r n).2) (fun i hi => by
    have b := mn_rat (hr 0 (by omega)) hr i (by omega)
    simp only [spec_gwBounds_b1, tab_len, idxO_tab hi, Option.bind_some, show ((i : Int) < (n : Int)) from by omega, decide_true, if_true, w64_nat (show i < 9223372036854775807 by omega)]
    rw [show ((mnN r i).1, (mnN r i).2) = mnN r i from rfl, show ((mxN r i).1, (mxN r i).2) = mxN r i from rfl, spec_ivLess_eq _ _ b.1 (hr i hi), spec_ivGreater_eq _ _ b.2 (hr i hi)]
    simp only [Option.bind_some, mnN_succ, mxN_succ]) (by simp [spec_gwBounds_b1, tab_len])
  unfold spec_gwBounds
  rw [spec_gwRatios_eq hn hG hv, hR, Option.bind_some, show (0 : Int) = ((0 : Nat) : Int) from rfl, idxO_tab (by omega), Option.bind_some]
  have h' : loopO (spec_gwBounds_b1 (tab n r)) ((r 0).1, (r 0).2, (r 0).1, (r 0).2, ((0 : Nat) : Int)) = some ((mnN r n).1, (mnN r n).2, (mxN r n).1, (mxN r n).2) := h
  rw [h']
  rfl
theorem minFunc_eq {r : Nat → Int × Int} (h1 : 1 ≤ n) (hn : n ≤ 8) (hr : ∀ i, i < n → isRat (r i) = true) : slices_MinFunc_Limpl_Rat_impl_Rat (tab n r) (fun x0 x1 => impl_compare x0 x1) = some (mnN r n) := by
  have h := loop_idx (body := slices_MinFunc_Limpl_Rat_impl_Rat_b1 (tab n r) (fun x0 x1 => impl_compare x0 x1)) (n - 1) (fun i => ((mnN r (i + 1)).1, (mnN r (i + 1)).2, ((i + 1 : Nat) : Int))) (mnN r n) (fun i hi => by
    have hi' : i + 1 < n := by omega
    have b := mn_rat (hr 0 (by omega)) hr (i + 1) (by omega)
    simp only [slices_MinFunc_Limpl_Rat_impl_Rat_b1, tab_len, idxO_tab hi', Option.bind_some, show (((i + 1 : Nat) : Int) < (n : Int)) from by omega, decide_true, if_true, w64_nat (show i + 1 < 9223372036854775807 by omega)]
    rw [show ((mnN r (i + 1)).1, (mnN r (i + 1)).2) = mnN r (i + 1) from rfl, impl_compare_eq _ _ (tame_of (hr _ hi')) (tame_of b.1), Option.bind_some, cmp_lt, mnN_succ r (i + 1)]
    unfold minStep
    cases less (r (i + 1)) (mnN r (i + 1)) <;> simp) (by
    have e : n - 1 + 1 = n := by omega
    simp [slices_MinFunc_Limpl_Rat_impl_Rat_b1, tab_len, e])
  unfold slices_MinFunc_Limpl_Rat_impl_Rat slices_MinFunc_Limpl_Rat_impl_Rat_k1
  have hl : ¬ (n : Int) < 1 := by omega
  simp only [tab_len, hl, decide_false, Bool.false_eq_true, if_false]
  rw [show (0 : Int) = ((0 : Nat) : Int) from rfl, idxO_tab (by omega), Option.bind_some]
  simp only [Nat.zero_add, mnN_one] at h
  have h' : loopO (slices_MinFunc_Limpl_Rat_impl_Rat_b1 (tab n r) (fun x0 x1 => impl_compare x0 x1)) ((r 0).1, (r 0).2, 1) = some (mnN r n) := h
  rw [h']
  rfl
theorem maxFunc_eq {r : Nat → Int × Int} (h1 : 1 ≤ n) (hn : n ≤ 8) (hr : ∀ i, i < n → isRat (r i) = true) : slices_MaxFunc_Limpl_Rat_impl_Rat (tab n r) (fun x0 x1 => impl_compare x0 x1) = some (mxN r n) := by
  have h := loop_idx (body := slices_MaxFunc_Limpl_Rat_impl_Rat_b1 (tab n r) (fun x0 x1 => impl_compare x0 x1)) (n - 1) (fun i => ((mxN r (i + 1)).1, (mxN r (i + 1)).2, ((i + 1 : Nat) : Int))) (mxN r n) (fun i hi => by
    have hi' : i + 1 < n := by omega
    have b := mn_rat (hr 0 (by omega)) hr (i + 1) (by omega)
    simp only [slices_MaxFunc_Limpl_Rat_impl_Rat_b1, tab_len, idxO_tab hi', Option.bind_some, show (((i + 1 : Nat) : Int) < (n : Int)) from by omega, decide_true, if_true, w64_nat (show i + 1 < 9223372036854775807 by omega)]
    rw [show ((mxN r (i + 1)).1, (mxN r (i + 1)).2) = mxN r (i + 1) from rfl, impl_compare_eq _ _ (tame_of (hr _ hi')) (tame_of b.2), Option.bind_some, cmp_gt, mxN_succ r (i + 1)]
    unfold maxStep
    cases less (mxN r (i + 1)) (r (i + 1)) <;> simp) (by
    have e : n - 1 + 1 = n := by omega
    simp [slices_MaxFunc_Limpl_Rat_impl_Rat_b1, tab_len, e])
  unfold slices_MaxFunc_Limpl_Rat_impl_Rat slices_MaxFunc_Limpl_Rat_impl_Rat_k1
  have hl : ¬ (n : Int) < 1 := by omega
  simp only [tab_len, hl, decide_false, Bool.false_eq_true, if_false]
  rw [show (0 : Int) = ((0 : Nat) : Int) from rfl, idxO_tab (by omega), Option.bind_some]
  simp only [Nat.zero_add, mxN_one] at h
  have h' : loopO (slices_MaxFunc_Limpl_Rat_impl_Rat_b1 (tab n r) (fun x0 x1 => impl_compare x0 x1)) ((r 0).1, (r 0).2, 1) = some (mxN r n) := h
  rw [h']
  rfl
theorem impl_ratioBounds_eq (h1 : 1 ≤ n) (hn : n ≤ 8) (hG : ∀ i j, i < n → j < n → 0 ≤ G i j ∧ G i j ≤ 9) (hv : ∀ j, j < n → 1 ≤ v j ∧ v j ≤ 1000000) :
    impl_ratioBounds (mat n n G) (tab n v) = some (mnN (ratN G v n) n, mxN (ratN G v n) n) := by
  have hr : ∀ i, i < n → isRat (ratN G v n i) = true := fun i hi => ratN_rat hn hG hv hi
  have h := loop_idx (body := impl_ratioBounds_b1 (tab n v) (tab n fun i => dotN (G i) v n)) n (fun i => (tab i (ratN G v n), (i : Int))) (tab n (ratN G v n)) (fun i hi => by
    have b := dotN_bound n (Nat.le_refl n) (fun j hj => hG i j hi hj) hv
    have c := hv i hi
    simp only [impl_ratioBounds_b1, tab_len, idxO_tab hi, Option.bind_some, show ((i : Int) < (n : Int)) from by omega, decide_true, if_true, impl_lowest_eq _ _ (show v i ≠ 0 by omega) (show -9223372036854775808 < dotN (G i) v n by omega) (by omega) (by omega) (by omega), w64_nat (show i < 9223372036854775807 by omega)]
    rw [guardO_bind_pos (by simp; omega), ← tab_succ i (ratN G v n)]
    rfl) (by simp [impl_ratioBounds_b1, tab_len])
  unfold impl_ratioBounds
  rw [impl_times_eq hn hG hv, Option.bind_some]
  have h' : loopO (impl_ratioBounds_b1 (tab n v) (tab n fun i => dotN (G i) v n)) ([], 0) = some (tab n (ratN G v n)) := h
  rw [h', Option.bind_some]
  simp only [impl_ratioBounds_k1, minFunc_eq h1 hn hr, maxFunc_eq h1 hn hr, Option.bind_some]
end
/-- A graph and a vector for it. -/
def asked (g : List (List Int)) (u : List Int) : Bool := isGraph g && (isVec u && ((u.length : Int) == (g.length : Int)))
theorem spec_gwAsked_eq (g : List (List Int)) (u : List Int) (hg : sized g) (hu : u.length ≤ 4611686018427387904) : spec_gwAsked g u = some (asked g u) := by
  unfold spec_gwAsked asked
  rw [spec_grGood_eq g hg, Option.bind_some, spec_gwVector_eq u hu]
  cases isGraph g <;> cases isVec u <;> simp
theorem impl_isVectorOf_eq (g : List (List Int)) (u : List Int) (hg : sized g) (hu : u.length ≤ 4611686018427387904) : impl_isVectorOf g u = some (asked g u) := by
  unfold impl_isVectorOf asked
  rw [impl_isGraph_eq g hg, Option.bind_some, impl_isVector_eq u hu]
  have e : ((g.length : Int) == (u.length : Int)) = ((u.length : Int) == (g.length : Int)) := by rw [Bool.eq_iff_iff]; simp only [beq_iff_eq]; omega
  cases isGraph g <;> cases isVec u <;> simp [e]
theorem asked_mat {g : List (List Int)} {u : List Int} (h : asked g u = true) : ∃ (n : Nat) (G : Nat → Nat → Int) (v : Nat → Int), 1 ≤ n ∧ n ≤ 8 ∧ g = mat n n G ∧ u = tab n v ∧ (∀ i j, i < n → j < n → 0 ≤ G i j ∧ G i j ≤ 9) ∧ ∀ j, j < n → 1 ≤ v j ∧ v j ≤ 1000000 := by
  simp only [asked, Bool.and_eq_true, beq_iff_eq] at h
  obtain ⟨h1, h2, h3⟩ := h
  obtain ⟨n, G, a, b, rfl, d⟩ := isGraph_mat h1
  rw [mat_len] at h3
  have hl : u.length = n := by omega
  have e := tab_eta u
  rw [hl] at e
  refine ⟨n, G, fun i => u.getD i default, a, b, rfl, e, d, fun j hj => ?_⟩
  simp only [isVec, Bool.and_eq_true] at h2
  have h4 := h2.2
  rw [e, tab_all] at h4
  have := inB_iff.1 (h4 j hj)
  exact this
theorem both_RatioBounds (g : List (List Int)) (u : List Int) (hg : sized g) (hu : u.length ≤ 4611686018427387904) : ∃ r, spec_RatioBounds g u = some r ∧ impl_RatioBounds g u = some r := by
  unfold spec_RatioBounds impl_RatioBounds
  rw [spec_gwAsked_eq g u hg hu, impl_isVectorOf_eq g u hg hu]
  simp only [Option.bind_some]
  cases h : asked g u
  · exact ⟨((0, 0), (0, 0), false), by simp, by simp⟩
  · obtain ⟨n, G, v, a, b, rfl, rfl, c, d⟩ := asked_mat h
    rw [spec_gwBounds_eq a b c d, impl_ratioBounds_eq a b c d]
    exact ⟨(mnN (ratN G v n) n, mxN (ratN G v n) n, true), by simp, by simp⟩
theorem laws_FnExactRatioBounds_eq (g : List (List Int)) (u : List Int) (hl : g.length ≤ 9223372036854775807) (hr : ∀ row ∈ g, row.length ≤ 9223372036854775807) : laws_FnExactRatioBounds g u = some true := by
  obtain ⟨v, h1, h2⟩ := laws_szIntSS_eq g hl hr
  unfold laws_FnExactRatioBounds
  by_cases hu : (u.length : Int) > 1048576
  · simp [hu]
  · simp only [hu, decide_false, Bool.false_eq_true, if_false]
    rw [h1, Option.bind_some]
    by_cases hv : v < 0
    · simp [hv]
    · have hs := h2 (by omega)
      obtain ⟨r, e1, e2⟩ := both_RatioBounds g u hs (by omega)
      simp only [hv, decide_false, Bool.false_eq_true, if_false, laws_toIntSS_eq g hs, laws_toIntS_eq u (by omega), e1, e2, laws_eqRat_self, laws_eqIntSS_self g hs, laws_eqIntS_self u (by omega), Option.bind_some]
      simp
end Go.PV
