/-
  Plain definitions of what the functions answer, and plain laws of them.
  Conditions: none.
-/
import Derived.Test.YtlajjggemadajaaPlLift
import Derived.Test.YtlajjggemadajaaPlGraph2
set_option linter.all false
namespace Go.PV
theorem lowest_isRat {n d : Int} (h1 : 0 ≤ n) (h2 : n ≤ 1000000000) (h3 : 1 ≤ d) (h4 : d ≤ 1000000000) : isRat (lowest n d).1 = true := by
  have hg : 0 < Int.gcd n d := Int.gcd_pos_of_ne_zero_right _ (by omega)
  have key : isRat (Int.tdiv n (Int.gcd n d : Int), Int.tdiv d (Int.gcd n d : Int)) = true := by
    obtain ⟨a, rfl⟩ := Int.eq_ofNat_of_zero_le h1
    obtain ⟨b, rfl⟩ := Int.eq_ofNat_of_zero_le (show 0 ≤ d by omega)
    have e : Int.gcd (a : Int) (b : Int) = Nat.gcd a b := rfl
    rw [e] at hg ⊢
    have e1 : Int.tdiv (a : Int) ((Nat.gcd a b : Nat) : Int) = ((a / Nat.gcd a b : Nat) : Int) := by rw [Int.tdiv_eq_ediv_of_nonneg (by omega)]; rfl
    have e2 : Int.tdiv (b : Int) ((Nat.gcd a b : Nat) : Int) = ((b / Nat.gcd a b : Nat) : Int) := by rw [Int.tdiv_eq_ediv_of_nonneg (by omega)]; rfl
    rw [e1, e2, isRat_iff]
    have l1 : a / Nat.gcd a b ≤ a := Nat.div_le_self _ _
    have l2 : b / Nat.gcd a b ≤ b := Nat.div_le_self _ _
    have l3 : 0 < b / Nat.gcd a b := Nat.div_pos (Nat.le_of_dvd (by omega) (Nat.gcd_dvd_right a b)) hg
    have l4 : ((a / Nat.gcd a b : Nat) : Int) ≤ 1000000000 := by omega
    have l5 : ((b / Nat.gcd a b : Nat) : Int) ≤ 1000000000 := by omega
    have l6 : 1 ≤ ((b / Nat.gcd a b : Nat) : Int) := by omega
    have l7 : 0 ≤ ((a / Nat.gcd a b : Nat) : Int) := Int.natCast_nonneg _
    generalize hA : ((a / Nat.gcd a b : Nat) : Int) = A at l4 l7 ⊢
    generalize hB : ((b / Nat.gcd a b : Nat) : Int) = B at l5 l6 ⊢
    refine ⟨l6, l5, by show -1000000000 ≤ A; omega, l4, ?_⟩
    rw [← hA, ← hB]
    exact Nat.coprime_div_gcd_div_gcd hg
  have hdn : ¬ d < 0 := by omega
  unfold lowest
  simp only [if_neg hdn]
  rw [if_pos key]
  exact key
theorem spec_raMake_eq (n d : Int) (h1 : 0 ≤ n) (h2 : n ≤ 1000000000) (h3 : 1 ≤ d) (h4 : d ≤ 1000000000) : spec_raMake n d = some (lowest n d) := by
  have hg : 0 < Int.gcd n d := Int.gcd_pos_of_ne_zero_right _ (by omega)
  have hd0 : (d == 0) = false := by simpa using (show d ≠ 0 by omega)
  have hdn : ¬ d < 0 := by omega
  unfold spec_raMake spec_raMake_k1 lowest
  simp only [hd0, Bool.false_eq_true, if_false, spec_l1Abs_eq n (by omega) (by omega), spec_l1Abs_eq d (by omega) (by omega), Option.bind_some, spec_raCommon_eq (n.natAbs : Int) (d.natAbs : Int) (by omega) (by omega), hdn, decide_false]
  have e : Int.gcd (n.natAbs : Int) (d.natAbs : Int) = Int.gcd n d := rfl
  rw [e, guardO_bind_pos (by omega), tdiv_w64 _ _ (by omega) (by omega) (by omega), tdiv_w64 _ _ (by omega) (by omega) (by omega), spec_raGood_eq, Option.bind_some]
  cases isRat (Int.tdiv n (Int.gcd n d : Int), Int.tdiv d (Int.gcd n d : Int)) <;> simp
theorem cmp_same {a b : Int × Int} (ha : isRat a = true) (hb : isRat b = true) (h : a.1 * b.2 = b.1 * a.2) : a = b := by
  obtain ⟨a1, a2, a3, a4, a5⟩ := isRat_iff.1 ha
  obtain ⟨b1, b2, b3, b4, b5⟩ := isRat_iff.1 hb
  obtain ⟨p, q⟩ := a
  obtain ⟨r, s⟩ := b
  simp only at *
  have hn : p.natAbs * s.natAbs = r.natAbs * q.natAbs := by rw [← Int.natAbs_mul, ← Int.natAbs_mul, h]
  have c1 : Nat.Coprime p.natAbs q.natAbs := a5
  have c2 : Nat.Coprime r.natAbs s.natAbs := b5
  have d1 : s.natAbs ∣ q.natAbs := by
    have : s.natAbs ∣ r.natAbs * q.natAbs := ⟨p.natAbs, by rw [← hn]; exact Nat.mul_comm _ _⟩
    exact c2.symm.dvd_of_dvd_mul_left this
  have d2 : q.natAbs ∣ s.natAbs := by
    have : q.natAbs ∣ p.natAbs * s.natAbs := ⟨r.natAbs, by rw [hn]; exact Nat.mul_comm _ _⟩
    exact c1.symm.dvd_of_dvd_mul_left this
  have hqs : q.natAbs = s.natAbs := Nat.dvd_antisymm d2 d1
  have hq : q = s := by omega
  subst hq
  have : p = r := Int.eq_of_mul_eq_mul_right (by omega) h
  rw [this]

/-! ### products -/
def dotN (G : Nat → Int) (v : Nat → Int) (n : Nat) : Int := foldN n (fun s j => s + G j * v j) 0
theorem dotN_bound {G v : Nat → Int} {n : Nat} (k : Nat) (hk : k ≤ n) (hG : ∀ j, j < n → 0 ≤ G j ∧ G j ≤ 9) (hv : ∀ j, j < n → 1 ≤ v j ∧ v j ≤ 1000000) : 0 ≤ dotN G v k ∧ dotN G v k ≤ 9000000 * k := by
  induction k with
  | zero => simp [dotN, foldN_zero]
  | succ k ih =>
    have := ih (by omega)
    have e : dotN G v (k + 1) = dotN G v k + G k * v k := by simp [dotN, foldN_succ]
    obtain ⟨g1, g2⟩ := hG k (by omega)
    obtain ⟨v1, v2⟩ := hv k (by omega)
    have p1 : 0 ≤ G k * v k := Int.mul_nonneg g1 (by omega)
    have p2 : G k * v k ≤ 9 * 1000000 := Int.mul_le_mul g2 v2 (by omega) (by omega)
    rw [e]
    omega
theorem dotN_step {G v : Nat → Int} {n k : Nat} (hn : n ≤ 8) (hk : k < n) (hG : ∀ j, j < n → 0 ≤ G j ∧ G j ≤ 9) (hv : ∀ j, j < n → 1 ≤ v j ∧ v j ≤ 1000000) : w64 (dotN G v k + w64 (G k * v k)) = dotN G v (k + 1) := by
  have b1 := dotN_bound k (by omega) hG hv
  have e : dotN G v (k + 1) = dotN G v k + G k * v k := by simp [dotN, foldN_succ]
  obtain ⟨g1, g2⟩ := hG k (by omega)
  obtain ⟨v1, v2⟩ := hv k (by omega)
  have p1 : 0 ≤ G k * v k := Int.mul_nonneg g1 (by omega)
  have p2 : G k * v k ≤ 9 * 1000000 := Int.mul_le_mul g2 v2 (by omega) (by omega)
  rw [e, w64_id (n := G k * v k) (by omega) (by omega), w64_id (by omega) (by omega)]
theorem spec_gwTimes_eq {n : Nat} {G : Nat → Nat → Int} {v : Nat → Int} (hn : n ≤ 8) (hG : ∀ i j, i < n → j < n → 0 ≤ G i j ∧ G i j ≤ 9) (hv : ∀ j, j < n → 1 ≤ v j ∧ v j ≤ 1000000) :
    spec_gwTimes (mat n n G) (tab n v) = some (tab n fun i => dotN (G i) v n) := by
  have inner : ∀ i, i < n → loopO (spec_gwTimes_b2 (tab n v) (tab n (G i))) (0, 0) = some (dotN (G i) v n) := fun i hi => by
    have h := loop_idx (body := spec_gwTimes_b2 (tab n v) (tab n (G i))) n (fun j => (dotN (G i) v j, (j : Int))) (dotN (G i) v n) (fun j hj => by
      simp only [spec_gwTimes_b2, tab_len, idxO_tab hj, Option.bind_some, show ((j : Int) < (n : Int)) from by omega, decide_true, if_true, w64_nat (show j < 9223372036854775807 by omega), dotN_step hn hj (fun j hj => hG i j hi hj) hv]) (by simp [spec_gwTimes_b2, tab_len])
    exact h
  have outer := loop_idx (body := spec_gwTimes_b1 (mat n n G) (tab n v)) n (fun i => (tab i fun i => dotN (G i) v n, (i : Int))) (tab n fun i => dotN (G i) v n) (fun i hi => by
    simp only [spec_gwTimes_b1, mat_len, idxO_mat hi, Option.bind_some, show ((i : Int) < (n : Int)) from by omega, decide_true, if_true, inner i hi, spec_gwTimes_k3, spec_gwTimes_k2, w64_nat (show i < 9223372036854775807 by omega)]
    rw [guardO_bind_pos (by simp [tab_len]; omega), tab_succ i fun i => dotN (G i) v n]) (by simp [spec_gwTimes_b1, mat_len])
  unfold spec_gwTimes
  have : loopO (spec_gwTimes_b1 (mat n n G) (tab n v)) ([], 0) = some (tab n fun i => dotN (G i) v n) := outer
  rw [this]
  rfl
theorem impl_times_eq {n : Nat} {G : Nat → Nat → Int} {v : Nat → Int} (hn : n ≤ 8) (hG : ∀ i j, i < n → j < n → 0 ≤ G i j ∧ G i j ≤ 9) (hv : ∀ j, j < n → 1 ≤ v j ∧ v j ≤ 1000000) :
    impl_times (mat n n G) (tab n v) = some (tab n fun i => dotN (G i) v n) := by
  let R : Nat → Nat → Nat → Int := fun i j k => if k < i then dotN (G k) v n else if k = i then dotN (G i) v j else 0
  have inner : ∀ i, i < n → loopO (impl_times_b2 (tab n v) (tab n (R i 0), (i : Int)) (tab n (G i))) (tab n (R i 0), 0) = some (tab n (R i n)) := fun i hi => by
    have h := loop_idx (body := impl_times_b2 (tab n v) (tab n (R i 0), (i : Int)) (tab n (G i))) n (fun j => (tab n (R i j), (j : Int))) (tab n (R i n)) (fun j hj => by
      simp only [impl_times_b2, tab_len, idxO_tab hj, idxO_tab hi, Option.bind_some, show ((j : Int) < (n : Int)) from by omega, decide_true, if_true, w64_nat (show j < 9223372036854775807 by omega), Int.toNat_natCast]
      rw [show R i j i = dotN (G i) v j by simp [R], dotN_step hn hj (fun j hj => hG i j hi hj) hv, tab_set hi]
      congr 3
      refine tab_ext fun k hk => ?_
      by_cases hki : k = i
      · subst hki; simp [R]
      · simp [R, hki]) (by simp [impl_times_b2, tab_len])
    exact h
  have outer := loop_idx (body := impl_times_b1 (mat n n G) (tab n v)) n (fun i => (tab n (R i 0), (i : Int))) (tab n (R n 0)) (fun i hi => by
    simp only [impl_times_b1, mat_len, idxO_mat hi, Option.bind_some, show ((i : Int) < (n : Int)) from by omega, decide_true, if_true, inner i hi, impl_times_k2, w64_nat (show i < 9223372036854775807 by omega)]
    congr 3
    refine tab_ext fun k hk => ?_
    by_cases h1 : k < i
    · simp [R, h1, show k < i + 1 by omega]
    · by_cases h2 : k = i
      · subst h2; simp [R]
      · have h3 : ¬ k < i + 1 := by omega
        by_cases h4 : k = i + 1
        · subst h4; simp [R, dotN, foldN_zero, show ¬ i + 1 < i by omega]
        · simp [R, h1, h2, h3, h4]) (by simp [impl_times_b1, mat_len])
  unfold impl_times
  rw [mat_len, guardO_bind_pos (by omega), Int.toNat_natCast, rep_tab]
  have e : tab n (fun _ => (0 : Int)) = tab n (R 0 0) := tab_ext fun k hk => by
    by_cases h : k = 0
    · subst h; simp [R, dotN, foldN_zero]
    · simp [R, h]
  rw [e]
  have : loopO (impl_times_b1 (mat n n G) (tab n v)) (tab n (R 0 0), 0) = some (tab n (R n 0)) := outer
  rw [this, Option.bind_some]
  simp only [impl_times_k1]
  congr 1
  exact tab_ext fun k hk => by simp [R, hk]
end Go.PV
