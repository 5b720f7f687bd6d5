/-
  Plain laws: graphs, numbers of walks.
  Conditions: none.
-/
import Derived.Test.YtlajjggemadajaaPlBase
import Derived.Test.YtlajjggemadajaaPlTab
set_option linter.all false
namespace Go.PV
/-! ### what comes in -/
def sized (g : List (List Int)) : Prop := g.length ≤ 1048576 ∧ ∀ row ∈ g, row.length ≤ 1048576
theorem laws_szIntS_eq (xs : List Int) (l : Int) (h0 : 0 ≤ l) (h1 : l ≤ 1048576) (hl : xs.length ≤ 9223372036854775807) : laws_szIntS xs l = some (if l - xs.length < 0 then -1 else l - xs.length) := by
  unfold laws_szIntS
  rw [w64_id (by omega) (by omega)]
  by_cases h : l - (xs.length : Int) < 0 <;> simp [h]
theorem laws_szIntSS_eq (g : List (List Int)) (hl : g.length ≤ 9223372036854775807) (hr : ∀ row ∈ g, row.length ≤ 9223372036854775807) : ∃ v, laws_szIntSS g 1048576 = some v ∧ (0 ≤ v → sized g) := by
  unfold laws_szIntSS
  rw [w64_id (by omega) (by omega)]
  by_cases h : (1048576 : Int) - (g.length : Int) < 0
  · exact ⟨-1, by simp [h], by omega⟩
  · simp only [h, decide_false, Bool.false_eq_true, if_false]
    obtain ⟨y, h1, h2⟩ := loop_run (body := laws_szIntSS_b1 g) (fun x => ∃ k : Nat, x.2 = k ∧ k ≤ g.length ∧ 0 ≤ x.1 ∧ x.1 ≤ 1048576 ∧ ∀ row ∈ g.take k, row.length ≤ 1048576) (fun x => g.length - x.2.toNat) (fun y => y = .inl (-1) ∨ ∃ l, y = .inr l ∧ sized g)
      (fun ⟨l, i⟩ ⟨k, hk, hkn, h3, h4, h5⟩ => by
        simp only at hk h3 h4
        subst hk
        by_cases hlt : k < g.length
        · have hrow := hr g[k] (List.getElem_mem hlt)
          simp only [laws_szIntSS_b1, idxO_lt hlt, Option.bind_some, show ((k : Int) < (g.length : Int)) from by omega, decide_true, if_true, laws_szIntS_eq _ l h3 h4 hrow]
          by_cases hn : l - (g[k].length : Int) < 0
          · right; exact ⟨_, by simp [hn], .inl rfl⟩
          · left
            refine ⟨(l - g[k].length, ((k + 1 : Nat) : Int)), by simp [hn, w64_nat (show k < 9223372036854775807 by omega)], ⟨k + 1, rfl, hlt, by simp only []; omega, by simp only []; omega, ?_⟩, by simp only [Int.toNat_natCast]; omega⟩
            intro row hrow'
            rw [List.take_add_one, List.getElem?_eq_getElem hlt] at hrow'
            rcases List.mem_append.1 hrow' with h6 | h6
            · exact h5 row h6
            · simp at h6; subst h6; omega
        · right
          refine ⟨.inr l, by simp [laws_szIntSS_b1, show ¬ ((k : Int) < (g.length : Int)) by omega], .inr ⟨l, rfl, by omega, ?_⟩⟩
          rwa [List.take_of_length_le (by omega)] at h5)
      (1048576 - (g.length : Int), 0) ⟨0, rfl, by omega, by simp only []; omega, by simp only []; omega, by simp⟩
    rw [h1]
    rcases h2 with rfl | ⟨l, rfl, h3⟩
    · exact ⟨-1, rfl, by omega⟩
    · exact ⟨l, rfl, fun _ => h3⟩
theorem laws_toIntSS_eq (g : List (List Int)) (h : sized g) : laws_toIntSS g = some g := by
  obtain ⟨hl, hr⟩ := h
  have hx := loop_idx (body := laws_toIntSS_b1 g) g.length (fun i => (g.take i ++ (List.replicate g.length ([] : List Int)).drop i, (i : Int))) g (fun i hi => by
    have hlen : i < (g.take i ++ (List.replicate g.length ([] : List Int)).drop i).length := by simp; omega
    simp only [laws_toIntSS_b1, idxO_lt hi, idxO_lt hlen, Option.bind_some, laws_toIntS_eq g[i] (by have := hr g[i] (List.getElem_mem hi); omega), w64_nat (show i < 9223372036854775807 by omega), show ((i : Int) < (g.length : Int)) from by omega, decide_true, if_true, Int.toNat_natCast]
    rw [set_at _ _ _ _ (List.getElem?_eq_getElem hi) (by simpa using hi)]) (by simp [laws_toIntSS_b1])
  unfold laws_toIntSS
  rw [guardO_bind_pos (by omega)]
  simp only [List.take_zero, List.nil_append, List.drop_zero] at hx
  rw [Int.toNat_natCast, show (0 : Int) = ((0 : Nat) : Int) from rfl, hx]
  rfl
theorem laws_eqIntSS_self (g : List (List Int)) (h : sized g) : laws_eqIntSS g g = some true := by
  obtain ⟨hl, hr⟩ := h
  have h := loop_idx (body := laws_eqIntSS_b1 g g) g.length (fun i => (i : Int)) (.inr ()) (fun i hi => by
    simp only [laws_eqIntSS_b1, idxO_lt hi, Option.bind_some, laws_eqIntS_self g[i] (by have := hr g[i] (List.getElem_mem hi); omega), w64_nat (show i < 9223372036854775807 by omega), show ((i : Int) < (g.length : Int)) from by omega, decide_true, if_true]
    simp) (by simp [laws_eqIntSS_b1])
  unfold laws_eqIntSS
  rw [show (0 : Int) = ((0 : Nat) : Int) from rfl, h]
  simp [laws_eqIntSS_k1]
/-! ### graphs -/
def isGraph (g : List (List Int)) : Bool := inB 1 8 g.length && g.all fun row => (row.length : Int) == g.length && row.all (inB 0 9)
theorem contains_LL (xs : List (List Int)) (f : List Int → Option Bool) (p : List Int → Bool) (hf : ∀ x ∈ xs, f x = some (p x)) (hl : xs.length ≤ 4611686018427387904) : slices_ContainsFunc_LLint_Lint xs f = some (xs.any p) := by
  have h := loop_first (xs := xs) (body := slices_IndexFunc_LLint_Lint_b1 xs f) p (fun i => (i : Int)) (fun i => .inl (i : Int)) (.inr ()) (fun i x hx => by
    have hi := getElem?_lt hx
    simp only [slices_IndexFunc_LLint_Lint_b1, idxO_nat, hx, hf x (List.mem_of_getElem? hx), Option.bind_some, w64_nat (show i < 9223372036854775807 by omega), show ((i : Int) < (xs.length : Int)) from by omega, decide_true, if_true]
    cases p x <;> rfl) (by simp [slices_IndexFunc_LLint_Lint_b1])
  unfold slices_ContainsFunc_LLint_Lint slices_IndexFunc_LLint_Lint
  rw [show (0 : Int) = ((0 : Nat) : Int) from rfl, h]
  cases hx : xs.findIdx? p with
  | none =>
    have hn := List.findIdx?_eq_none_iff.1 hx
    have : xs.any p = false := by simpa using hn
    simp [this, slices_IndexFunc_LLint_Lint_k1]
  | some m =>
    obtain ⟨hm, hp, _⟩ := List.findIdx?_eq_some_iff_getElem.1 hx
    have : xs.any p = true := by simp; exact ⟨xs[m], List.getElem_mem hm, hp⟩
    simp [this]
theorem impl_isGraph_1_1_eq (x : Int) : impl_isGraph_1_1 x = some (!inB 0 9 x) := by simp [impl_isGraph_1_1, impl_within_eq]
theorem impl_isGraph_1_eq (row : List Int) (g : List (List Int)) (hl : row.length ≤ 4611686018427387904) : impl_isGraph_1 row g = some (!((row.length : Int) == g.length && row.all (inB 0 9))) := by
  unfold impl_isGraph_1
  rw [slices_ContainsFunc_Lint_int_eq row (fun x0 => impl_isGraph_1_1 x0) _ impl_isGraph_1_1_eq hl]
  by_cases hc : (row.length : Int) = g.length
  · simp [hc, List.any_eq_not_all_not]
  · simp [hc]
theorem impl_isGraph_eq (g : List (List Int)) (h : sized g) : impl_isGraph g = some (isGraph g) := by
  obtain ⟨hl, hr⟩ := h
  unfold impl_isGraph
  rw [impl_within_eq, Option.bind_some, contains_LL g (fun x0 => impl_isGraph_1 x0 g) _ (fun x hx => impl_isGraph_1_eq x g (by have := hr x hx; omega)) (by omega)]
  simp only [Option.bind_some, isGraph, List.any_eq_not_all_not, Bool.not_not]
  cases inB 1 8 g.length <;> rfl
theorem spec_grGood_eq (g : List (List Int)) (h : sized g) : spec_grGood g = some (isGraph g) := by
  obtain ⟨hl, hr⟩ := h
  have hx := loop_any (xs := g) (body := spec_grGood_b1 g) (fun row => !((row.length : Int) == g.length && row.all (inB 0 9))) (fun i => (i : Int)) (.inl false) (.inr ()) (fun i x hx => by
    have hi := getElem?_lt hx
    have hlx := hr x (List.mem_of_getElem? hx)
    simp only [spec_grGood_b1, idxO_nat, hx, Option.bind_some, spec_l1All_eq x 0 9 (by omega), w64_nat (show i < 9223372036854775807 by omega), show ((i : Int) < (g.length : Int)) from by omega, decide_true, if_true, bne]
    cases (x.length : Int) == g.length
    · rfl
    · cases x.all (inB 0 9) <;> rfl) (by simp [spec_grGood_b1])
  unfold spec_grGood isGraph
  rw [spec_l1In_eq, Option.bind_some, show (0 : Int) = ((0 : Nat) : Int) from rfl, hx, List.any_eq_not_all_not]
  simp only [Bool.not_not]
  cases inB 1 8 g.length
  · rfl
  · simp only [Bool.not_true, Bool.false_eq_true, if_false, Bool.true_and, Option.bind_some]
    cases (g.all fun row => (row.length : Int) == g.length && row.all (inB 0 9)) <;> rfl
/-- A graph as a table. -/
theorem isGraph_mat {g : List (List Int)} (h : isGraph g = true) : ∃ (n : Nat) (G : Nat → Nat → Int), 1 ≤ n ∧ n ≤ 8 ∧ g = mat n n G ∧ ∀ i j, i < n → j < n → 0 ≤ G i j ∧ G i j ≤ 9 := by
  simp only [isGraph, Bool.and_eq_true, inB_iff, List.all_eq_true, beq_iff_eq] at h
  obtain ⟨⟨h1, h2⟩, h3⟩ := h
  refine ⟨g.length, fun i j => (g.getD i []).getD j 0, by omega, by omega, ?_, fun i j hi hj => ?_⟩
  · refine (tab_eta g).trans (tab_ext fun i hi => ?_)
    have hlen := (h3 g[i] (List.getElem_mem hi)).1
    have e : g.getD i default = g[i] := by simp [hi]
    have e2 : g.getD i [] = g[i] := by simp [hi]
    rw [e]
    show g[i] = tab g.length (fun j => (g.getD i []).getD j 0)
    rw [e2]
    refine (tab_eta g[i]).trans ?_
    rw [show g[i].length = g.length by omega]
    rfl
  · have hrow := h3 g[i] (List.getElem_mem hi)
    have e : g.getD i [] = g[i] := by simp [hi]
    have hj' : j < g[i].length := by omega
    have e2 : g[i].getD j 0 = g[i][j] := by simp [hj']
    simp only [e, e2]
    exact hrow.2 _ (List.getElem_mem hj')
end Go.PV
