/-
  Plain definitions of what the functions answer, and plain laws of them.
  Conditions: none.
-/
import Derived.Test.YtlajjggemadajaaPlBounds2
set_option linter.all false
namespace Go.PV
theorem cmp_le (a b : Int × Int) : decide (cmp a b ≤ 0) = !less b a := by
  unfold cmp less
  by_cases h1 : a.1 * b.2 < b.1 * a.2
  · have : ¬ b.1 * a.2 < a.1 * b.2 := by omega
    simp [h1, this]
  · by_cases h2 : a.1 * b.2 > b.1 * a.2
    · have h3 : b.1 * a.2 < a.1 * b.2 := h2
      simp [h1, h3]
    · have : ¬ b.1 * a.2 < a.1 * b.2 := by omega
      simp [h1, this]
theorem both_IsGrowthBound (g : List (List Int)) (u : List Int) (a b : Int × Int) (hg : sized g) (hu : u.length ≤ 4611686018427387904) : ∃ r, spec_IsGrowthBound g u a b = some r ∧ impl_IsGrowthBound g u a b = some r := by
  unfold spec_IsGrowthBound impl_IsGrowthBound
  rw [spec_gwAsked_eq g u hg hu, impl_isVectorOf_eq g u hg hu, impl_areRats_eq [a, b] (by simp), spec_raGood_eq, spec_raGood_eq]
  simp only [Option.bind_some]
  cases h : asked g u
  · exact ⟨(false, false), by simp, by simp⟩
  · cases h1 : isRat a
    · exact ⟨(false, false), by simp, by simp [h1]⟩
    · cases h2 : isRat b
      · exact ⟨(false, false), by simp, by simp [h1, h2]⟩
      · obtain ⟨n, G, v, p, q, rfl, rfl, c, d⟩ := asked_mat h
        have hr : ∀ i, i < n → isRat (ratN G v n i) = true := fun i hi => ratN_rat q c d hi
        have hb := mn_rat (hr 0 (by omega)) hr n (Nat.le_refl n)
        unfold spec_gwWithin
        rw [spec_gwBounds_eq p q c d, impl_ratioBounds_eq p q c d]
        simp only [Option.bind_some, spec_raCmp_eq a _ (tame_of h1) (tame_of hb.1), spec_raCmp_eq _ b (tame_of hb.2) (tame_of h2), impl_less_eq _ a (tame_of hb.1) (tame_of h1), impl_less_eq b _ (tame_of h2) (tame_of hb.2), cmp_le]
        refine ⟨(!less (mnN (ratN G v n) n) a && !less b (mxN (ratN G v n) n), true), ?_, ?_⟩
        · cases less (mnN (ratN G v n) n) a <;> simp
        · cases less (mnN (ratN G v n) n) a <;> simp [h1, h2]
theorem laws_FnExactIsGrowthBound_eq (g : List (List Int)) (u : List Int) (a b : Int × Int) (hl : g.length ≤ 9223372036854775807) (hr : ∀ row ∈ g, row.length ≤ 9223372036854775807) : laws_FnExactIsGrowthBound g u a b = some true := by
  obtain ⟨v, h1, h2⟩ := laws_szIntSS_eq g hl hr
  unfold laws_FnExactIsGrowthBound
  by_cases hu : (u.length : Int) > 1048576
  · simp [hu]
  · simp only [hu, decide_false, Bool.false_eq_true, if_false]
    rw [h1, Option.bind_some]
    by_cases hv : v < 0
    · simp [hv]
    · have hs := h2 (by omega)
      obtain ⟨r, e1, e2⟩ := both_IsGrowthBound g u a b hs (by omega)
      simp only [hv, decide_false, Bool.false_eq_true, if_false, laws_toIntSS_eq g hs, laws_toIntS_eq u (by omega), laws_toRat, e1, e2, laws_eqIntSS_self g hs, laws_eqIntS_self u (by omega), Option.bind_some]
      simp
end Go.PV
