/-
  Plain laws of what the functions answer.
  Conditions: none.
-/
import Derived.KernelRfl
import Derived.Test.YtlajjggemadajaaPvCx
import Derived.Test.YtlajjggemadajaaDf
set_option linter.all false
/-
  Plain laws: bounds, lists of numbers, vectors.
  Conditions: none.
-/
namespace Go.PV
def inB (a b n : Int) : Bool := decide (a ≤ n) && decide (n ≤ b)
theorem inB_iff {a b n : Int} : inB a b n = true ↔ a ≤ n ∧ n ≤ b := by simp [inB]
theorem spec_l1In_eq (v a b : Int) : spec_l1In v a b = some (inB a b v) := rfl
theorem impl_within_eq (v a b : Int) : impl_within v a b = some (inB a b v) := rfl
theorem spec_l1All_eq (xs : List Int) (a b : Int) (hl : xs.length ≤ 4611686018427387904) : spec_l1All xs a b = some (xs.all (inB a b)) := by
  have h := loop_any (xs := xs) (body := spec_l1All_b1 xs a b) (fun x => !inB a b x) (fun i => (i : Int)) (.inl false) (.inr ()) (fun i x hx => by
    have hi := getElem?_lt hx
    simp only [spec_l1All_b1, idxO_nat, hx, spec_l1In_eq, Option.bind_some, w64_nat (show i < 9223372036854775807 by omega), show ((i : Int) < (xs.length : Int)) from by omega, decide_true, if_true]
    cases inB a b x <;> rfl) (by simp [spec_l1All_b1])
  unfold spec_l1All
  rw [show (0 : Int) = ((0 : Nat) : Int) from rfl, h, List.any_eq_not_all_not]
  simp only [Bool.not_not]
  cases xs.all (inB a b) <;> rfl
def isVec (xs : List Int) : Bool := inB 1 8 xs.length && xs.all (inB 1 1000000)
theorem spec_gwVector_eq (xs : List Int) (hl : xs.length ≤ 4611686018427387904) : spec_gwVector xs = some (isVec xs) := by
  simp only [spec_gwVector, spec_l1In_eq, spec_l1All_eq xs _ _ hl, Option.bind_some, isVec]
  cases inB 1 8 xs.length <;> rfl
theorem spec_IsVector_eq (xs : List Int) (hl : xs.length ≤ 4611686018427387904) : spec_IsVector xs = some (isVec xs) := by
  simp only [spec_IsVector, spec_gwVector_eq xs hl, Option.bind_some]
theorem slices_IndexFunc_Lint_int_eq (xs : List Int) (f : Int → Option Bool) (p : Int → Bool) (hf : ∀ x, f x = some (p x)) (hl : xs.length ≤ 4611686018427387904) :
    slices_IndexFunc_Lint_int xs f = some (match xs.findIdx? p with | some i => (i : Int) | none => -1) := by
  have h := loop_first (xs := xs) (body := slices_IndexFunc_Lint_int_b1 xs f) p (fun i => (i : Int)) (fun i => .inl (i : Int)) (.inr ()) (fun i x hx => by
    have hi := getElem?_lt hx
    simp only [slices_IndexFunc_Lint_int_b1, idxO_nat, hx, hf, Option.bind_some, w64_nat (show i < 9223372036854775807 by omega), show ((i : Int) < (xs.length : Int)) from by omega, decide_true, if_true]
    cases p x <;> rfl) (by simp [slices_IndexFunc_Lint_int_b1])
  unfold slices_IndexFunc_Lint_int
  rw [show (0 : Int) = ((0 : Nat) : Int) from rfl, h]
  cases xs.findIdx? p <;> rfl
theorem slices_ContainsFunc_Lint_int_eq (xs : List Int) (f : Int → Option Bool) (p : Int → Bool) (hf : ∀ x, f x = some (p x)) (hl : xs.length ≤ 4611686018427387904) : slices_ContainsFunc_Lint_int xs f = some (xs.any p) := by
  simp only [slices_ContainsFunc_Lint_int, slices_IndexFunc_Lint_int_eq xs f p hf hl, Option.bind_some]
  cases h : xs.findIdx? p with
  | none =>
    have hn := List.findIdx?_eq_none_iff.1 h
    have : xs.any p = false := by simpa using hn
    simp [this]
  | some m =>
    obtain ⟨hm, hp, _⟩ := List.findIdx?_eq_some_iff_getElem.1 h
    have : xs.any p = true := by simp; exact ⟨xs[m], List.getElem_mem hm, hp⟩
    simp [this]
theorem impl_isVector_1_eq (x : Int) : impl_isVector_1 x = some (!inB 1 1000000 x) := by simp [impl_isVector_1, impl_within_eq]
theorem impl_isVector_eq (xs : List Int) (hl : xs.length ≤ 4611686018427387904) : impl_isVector xs = some (isVec xs) := by
  unfold impl_isVector
  rw [impl_within_eq, Option.bind_some, slices_ContainsFunc_Lint_int_eq xs (fun x0 => impl_isVector_1 x0) _ impl_isVector_1_eq hl]
  simp only [Option.bind_some, isVec, List.any_eq_not_all_not, Bool.not_not]
  cases inB 1 8 xs.length <;> rfl
theorem impl_IsVector_eq (xs : List Int) (hl : xs.length ≤ 4611686018427387904) : impl_IsVector xs = some (isVec xs) := by
  simp only [impl_IsVector, impl_isVector_eq xs hl, Option.bind_some]
theorem set_at {α : Type} (xs ys : List α) (i : Nat) (x : α) (hi : xs[i]? = some x) (hl : i < ys.length) : (xs.take i ++ ys.drop i).set i x = xs.take (i + 1) ++ ys.drop (i + 1) := by
  have h1 := getElem?_lt hi
  apply List.ext_getElem?
  intro j
  rw [List.getElem?_set]
  by_cases hj : i = j
  · subst hj
    have hlen : i < (xs.take i ++ ys.drop i).length := by simp; omega
    rw [if_pos rfl, if_pos hlen, List.getElem?_append_left (by simp; omega), List.getElem?_take_of_lt (by omega), hi]
  · rw [if_neg hj, List.getElem?_append, List.getElem?_append]
    simp only [List.length_take, List.getElem?_take, List.getElem?_drop]
    by_cases h2 : j < i
    · simp [show j < i + 1 by omega, h2, show min i xs.length = i by omega, show min (i + 1) xs.length = i + 1 by omega]
    · have h3 : ¬ j < i + 1 := by omega
      simp [h3, h2, show min i xs.length = i by omega, show min (i + 1) xs.length = i + 1 by omega]
      congr 1
      omega
theorem laws_toIntS_eq (xs : List Int) (hl : xs.length ≤ 1099511627776) : laws_toIntS xs = some xs := by
  have h := loop_idx (body := laws_toIntS_b1 xs) xs.length (fun i => (xs.take i ++ (List.replicate xs.length (0 : Int)).drop i, (i : Int))) xs (fun i hi => by
    have hlen : i < (xs.take i ++ (List.replicate xs.length (0 : Int)).drop i).length := by simp; omega
    simp only [laws_toIntS_b1, idxO_lt hi, idxO_lt hlen, Option.bind_some, w64_nat (show i < 9223372036854775807 by omega), show ((i : Int) < (xs.length : Int)) from by omega, decide_true, if_true, Int.toNat_natCast]
    rw [set_at _ _ _ _ (List.getElem?_eq_getElem hi) (by simpa using hi)]) (by simp [laws_toIntS_b1])
  unfold laws_toIntS
  rw [guardO_bind_pos (by omega)]
  simp only [List.take_zero, List.nil_append, List.drop_zero] at h
  rw [Int.toNat_natCast, show (0 : Int) = ((0 : Nat) : Int) from rfl]
  rw [show ((List.replicate xs.length ((0 : Nat) : Int)), ((0 : Nat) : Int)) = (List.replicate xs.length (0 : Int), ((0 : Nat) : Int)) from rfl, h]
  rfl
theorem laws_eqIntS_self (xs : List Int) (hl : xs.length ≤ 4611686018427387904) : laws_eqIntS xs xs = some true := by
  have h := loop_idx (body := laws_eqIntS_b1 xs xs) xs.length (fun i => (i : Int)) (.inr ()) (fun i hi => by
    simp only [laws_eqIntS_b1, idxO_lt hi, Option.bind_some, w64_nat (show i < 9223372036854775807 by omega), show ((i : Int) < (xs.length : Int)) from by omega, decide_true, if_true]
    simp) (by simp [laws_eqIntS_b1])
  unfold laws_eqIntS
  rw [show (0 : Int) = ((0 : Nat) : Int) from rfl, h]
  simp [laws_eqIntS_k1]
theorem laws_FnExactIsVector_eq (xs : List Int) : laws_FnExactIsVector xs = some true := by
  unfold laws_FnExactIsVector
  by_cases h : (xs.length : Int) > 1048576
  · simp [h]
  · have hl : xs.length ≤ 1048576 := by omega
    simp only [h, decide_false, Bool.false_eq_true, if_false, laws_toIntS_eq xs (by omega), spec_IsVector_eq xs (by omega), impl_IsVector_eq xs (by omega), laws_eqIntS_self xs (by omega), Option.bind_some]
    simp
end Go.PV

/-
  Plain laws: lists and tables by their places.
  Conditions: none.
-/
namespace Go.PV
section
variable {α β : Type}
/-- The list of n elements with f i at place i. -/
def tab (n : Nat) (f : Nat → α) : List α := (List.range n).map f
theorem tab_len (n : Nat) (f : Nat → α) : (tab n f).length = n := by simp [tab]
theorem tab_get {n i : Nat} {f : Nat → α} (h : i < n) : (tab n f)[i]? = some (f i) := by simp [tab, h]
theorem tab_get_none {n i : Nat} {f : Nat → α} (h : n ≤ i) : (tab n f)[i]? = none := by simp [tab, h]
theorem idxO_tab {n i : Nat} {f : Nat → α} (h : i < n) : idxO (tab n f) (i : Int) = some (f i) := by rw [idxO_nat, tab_get h]
theorem tab_ext {n : Nat} {f g : Nat → α} (h : ∀ i, i < n → f i = g i) : tab n f = tab n g := List.map_congr_left fun i hi => h i (List.mem_range.1 hi)
theorem tab_set {n i : Nat} {f : Nat → α} {v : α} (h : i < n) : (tab n f).set i v = tab n (fun k => if k = i then v else f k) := by
  apply List.ext_getElem?
  intro j
  rw [List.getElem?_set]
  by_cases hij : i = j
  · subst hij
    rw [if_pos rfl, if_pos (by rw [tab_len]; exact h), tab_get h, if_pos rfl]
  · rw [if_neg hij]
    by_cases hj : j < n
    · rw [tab_get hj, tab_get hj, if_neg (Ne.symm hij)]
    · rw [tab_get_none (by omega), tab_get_none (by omega)]
theorem rep_tab (n : Nat) (v : α) : List.replicate n v = tab n (fun _ => v) := by
  apply List.ext_getElem?
  intro j
  by_cases hj : j < n
  · rw [tab_get hj]; simp [hj]
  · rw [tab_get_none (by omega)]; simp [hj]
theorem tab_succ (n : Nat) (f : Nat → α) : tab n f ++ [f n] = tab (n + 1) f := by simp [tab, List.range_succ]
theorem tab_zero (f : Nat → α) : tab 0 f = [] := rfl
theorem tab_eta [Inhabited α] (xs : List α) : xs = tab xs.length (fun i => xs.getD i default) := by
  apply List.ext_getElem?
  intro j
  by_cases hj : j < xs.length
  · rw [tab_get hj]; simp [hj]
  · rw [tab_get_none (by omega)]; simp; omega
theorem tab_map {n : Nat} {f : Nat → α} (g : α → β) : (tab n f).map g = tab n (fun i => g (f i)) := by simp [tab]
theorem tab_mem {n : Nat} {f : Nat → α} {x : α} : x ∈ tab n f ↔ ∃ i, i < n ∧ f i = x := by simp [tab]
theorem tab_all {n : Nat} {f : Nat → α} {p : α → Bool} : (tab n f).all p = true ↔ ∀ i, i < n → p (f i) = true := by simp [tab]
/-- The table with f i j at row i, place j. -/
def mat (n m : Nat) (f : Nat → Nat → α) : List (List α) := tab n fun i => tab m (f i)
theorem mat_ext {n m : Nat} {f g : Nat → Nat → α} (h : ∀ i j, i < n → j < m → f i j = g i j) : mat n m f = mat n m g := tab_ext fun i hi => tab_ext fun j hj => h i j hi hj
theorem mat_set {n m i j : Nat} {f : Nat → Nat → α} {v : α} (hi : i < n) (hj : j < m) : (mat n m f).set i ((tab m (f i)).set j v) = mat n m (fun a b => if a = i ∧ b = j then v else f a b) := by
  unfold mat
  rw [tab_set hi, tab_set hj]
  refine tab_ext fun a _ => ?_
  by_cases ha : a = i
  · subst ha; simp
  · rw [if_neg ha]; exact tab_ext fun b _ => by simp [ha]
theorem mat_set2 {n m i j : Nat} {f : Nat → Nat → α} {r : Nat → α} {v : α} (hi : i < n) (hj : j < m) : (mat n m f).set i ((tab m r).set j v) = mat n m (fun a b => if a = i then (if b = j then v else r b) else f a b) := by
  unfold mat
  rw [tab_set hi, tab_set hj]
  refine tab_ext fun a _ => ?_
  by_cases ha : a = i
  · subst ha; simp
  · rw [if_neg ha]; exact tab_ext fun b _ => by simp [ha]
theorem mat_len (n m : Nat) (f : Nat → Nat → α) : (mat n m f).length = n := tab_len _ _
theorem idxO_mat {n m i : Nat} {f : Nat → Nat → α} (h : i < n) : idxO (mat n m f) (i : Int) = some (tab m (f i)) := idxO_tab h
/-- A fold over the first n numbers. -/
def foldN (n : Nat) (g : β → Nat → β) (s : β) : β := (List.range n).foldl g s
theorem foldN_succ (n : Nat) (g : β → Nat → β) (s : β) : foldN (n + 1) g s = g (foldN n g s) n := by simp [foldN, List.range_succ]
theorem foldN_zero (g : β → Nat → β) (s : β) : foldN 0 g s = s := rfl
theorem foldN_ext {n : Nat} {g h : β → Nat → β} {s : β} (H : ∀ b i, i < n → g b i = h b i) : foldN n g s = foldN n h s := by
  induction n with
  | zero => rfl
  | succ n ih => rw [foldN_succ, foldN_succ, ih fun b i hi => H b i (by omega), H _ _ (by omega)]
end
end Go.PV

/-
  Plain laws: graphs, numbers of walks.
  Conditions: none.
-/
namespace Go.PV
/-! ### what comes in -/
def sized (g : List (List Int)) : Prop := g.length ≤ 1048576 ∧ ∀ row ∈ g, row.length ≤ 1048576
theorem laws_szIntS_eq (xs : List Int) (l : Int) (h0 : 0 ≤ l) (h1 : l ≤ 1048576) (hl : xs.length ≤ 9223372036854775807) : laws_szIntS xs l = some (if l - xs.length < 0 then -1 else l - xs.length) := by
  unfold laws_szIntS
  rw [w64_id (by omega) (by omega)]
  by_cases h : l - (xs.length : Int) < 0 <;> simp [h]
theorem laws_szIntSS_eq (g : List (List Int)) (hl : g.length ≤ 9223372036854775807) (hr : ∀ row ∈ g, row.length ≤ 9223372036854775807) : ∃ v, laws_szIntSS g 1048576 = some v ∧ (0 ≤ v → sized g) := by
  unfold laws_szIntSS
  rw [w64_id (by omega) (by omega)]
  by_cases h : (1048576 : Int) - (g.length : Int) < 0
  · exact ⟨-1, by simp [h], by omega⟩
  · simp only [h, decide_false, Bool.false_eq_true, if_false]
    obtain ⟨y, h1, h2⟩ := loop_run (body := laws_szIntSS_b1 g) (fun x => ∃ k : Nat, x.2 = k ∧ k ≤ g.length ∧ 0 ≤ x.1 ∧ x.1 ≤ 1048576 ∧ ∀ row ∈ g.take k, row.length ≤ 1048576) (fun x => g.length - x.2.toNat) (fun y => y = .inl (-1) ∨ ∃ l, y = .inr l ∧ sized g)
      (fun ⟨l, i⟩ ⟨k, hk, hkn, h3, h4, h5⟩ => by
        simp only at hk h3 h4
        subst hk
        by_cases hlt : k < g.length
        · have hrow := hr g[k] (List.getElem_mem hlt)
          simp only [laws_szIntSS_b1, idxO_lt hlt, Option.bind_some, show ((k : Int) < (g.length : Int)) from by omega, decide_true, if_true, laws_szIntS_eq _ l h3 h4 hrow]
          by_cases hn : l - (g[k].length : Int) < 0
          · right; exact ⟨_, by simp [hn], .inl rfl⟩
          · left
            refine ⟨(l - g[k].length, ((k + 1 : Nat) : Int)), by simp [hn, w64_nat (show k < 9223372036854775807 by omega)], ⟨k + 1, rfl, hlt, by simp only []; omega, by simp only []; omega, ?_⟩, by simp only [Int.toNat_natCast]; omega⟩
            intro row hrow'
            rw [List.take_add_one, List.getElem?_eq_getElem hlt] at hrow'
            rcases List.mem_append.1 hrow' with h6 | h6
            · exact h5 row h6
            · simp at h6; subst h6; omega
        · right
          refine ⟨.inr l, by simp [laws_szIntSS_b1, show ¬ ((k : Int) < (g.length : Int)) by omega], .inr ⟨l, rfl, by omega, ?_⟩⟩
          rwa [List.take_of_length_le (by omega)] at h5)
      (1048576 - (g.length : Int), 0) ⟨0, rfl, by omega, by simp only []; omega, by simp only []; omega, by simp⟩
    rw [h1]
    rcases h2 with rfl | ⟨l, rfl, h3⟩
    · exact ⟨-1, rfl, by omega⟩
    · exact ⟨l, rfl, fun _ => h3⟩
theorem laws_toIntSS_eq (g : List (List Int)) (h : sized g) : laws_toIntSS g = some g := by
  obtain ⟨hl, hr⟩ := h
  have hx := loop_idx (body := laws_toIntSS_b1 g) g.length (fun i => (g.take i ++ (List.replicate g.length ([] : List Int)).drop i, (i : Int))) g (fun i hi => by
    have hlen : i < (g.take i ++ (List.replicate g.length ([] : List Int)).drop i).length := by simp; omega
    simp only [laws_toIntSS_b1, idxO_lt hi, idxO_lt hlen, Option.bind_some, laws_toIntS_eq g[i] (by have := hr g[i] (List.getElem_mem hi); omega), w64_nat (show i < 9223372036854775807 by omega), show ((i : Int) < (g.length : Int)) from by omega, decide_true, if_true, Int.toNat_natCast]
    rw [set_at _ _ _ _ (List.getElem?_eq_getElem hi) (by simpa using hi)]) (by simp [laws_toIntSS_b1])
  unfold laws_toIntSS
  rw [guardO_bind_pos (by omega)]
  simp only [List.take_zero, List.nil_append, List.drop_zero] at hx
  rw [Int.toNat_natCast, show (0 : Int) = ((0 : Nat) : Int) from rfl, hx]
  rfl
theorem laws_eqIntSS_self (g : List (List Int)) (h : sized g) : laws_eqIntSS g g = some true := by
  obtain ⟨hl, hr⟩ := h
  have h := loop_idx (body := laws_eqIntSS_b1 g g) g.length (fun i => (i : Int)) (.inr ()) (fun i hi => by
    simp only [laws_eqIntSS_b1, idxO_lt hi, Option.bind_some, laws_eqIntS_self g[i] (by have := hr g[i] (List.getElem_mem hi); omega), w64_nat (show i < 9223372036854775807 by omega), show ((i : Int) < (g.length : Int)) from by omega, decide_true, if_true]
    simp) (by simp [laws_eqIntSS_b1])
  unfold laws_eqIntSS
  rw [show (0 : Int) = ((0 : Nat) : Int) from rfl, h]
  simp [laws_eqIntSS_k1]
/-! ### graphs -/
def isGraph (g : List (List Int)) : Bool := inB 1 8 g.length && g.all fun row => (row.length : Int) == g.length && row.all (inB 0 9)
theorem contains_LL (xs : List (List Int)) (f : List Int → Option Bool) (p : List Int → Bool) (hf : ∀ x ∈ xs, f x = some (p x)) (hl : xs.length ≤ 4611686018427387904) : slices_ContainsFunc_LLint_Lint xs f = some (xs.any p) := by
  have h := loop_first (xs := xs) (body := slices_IndexFunc_LLint_Lint_b1 xs f) p (fun i => (i : Int)) (fun i => .inl (i : Int)) (.inr ()) (fun i x hx => by
    have hi := getElem?_lt hx
    simp only [slices_IndexFunc_LLint_Lint_b1, idxO_nat, hx, hf x (List.mem_of_getElem? hx), Option.bind_some, w64_nat (show i < 9223372036854775807 by omega), show ((i : Int) < (xs.length : Int)) from by omega, decide_true, if_true]
    cases p x <;> rfl) (by simp [slices_IndexFunc_LLint_Lint_b1])
  unfold slices_ContainsFunc_LLint_Lint slices_IndexFunc_LLint_Lint
  rw [show (0 : Int) = ((0 : Nat) : Int) from rfl, h]
  cases hx : xs.findIdx? p with
  | none =>
    have hn := List.findIdx?_eq_none_iff.1 hx
    have : xs.any p = false := by simpa using hn
    simp [this, slices_IndexFunc_LLint_Lint_k1]
  | some m =>
    obtain ⟨hm, hp, _⟩ := List.findIdx?_eq_some_iff_getElem.1 hx
    have : xs.any p = true := by simp; exact ⟨xs[m], List.getElem_mem hm, hp⟩
    simp [this]
theorem impl_isGraph_1_1_eq (x : Int) : impl_isGraph_1_1 x = some (!inB 0 9 x) := by simp [impl_isGraph_1_1, impl_within_eq]
theorem impl_isGraph_1_eq (row : List Int) (g : List (List Int)) (hl : row.length ≤ 4611686018427387904) : impl_isGraph_1 row g = some (!((row.length : Int) == g.length && row.all (inB 0 9))) := by
  unfold impl_isGraph_1
  rw [slices_ContainsFunc_Lint_int_eq row (fun x0 => impl_isGraph_1_1 x0) _ impl_isGraph_1_1_eq hl]
  by_cases hc : (row.length : Int) = g.length
  · simp [hc, List.any_eq_not_all_not]
  · simp [hc]
theorem impl_isGraph_eq (g : List (List Int)) (h : sized g) : impl_isGraph g = some (isGraph g) := by
  obtain ⟨hl, hr⟩ := h
  unfold impl_isGraph
  rw [impl_within_eq, Option.bind_some, contains_LL g (fun x0 => impl_isGraph_1 x0 g) _ (fun x hx => impl_isGraph_1_eq x g (by have := hr x hx; omega)) (by omega)]
  simp only [Option.bind_some, isGraph, List.any_eq_not_all_not, Bool.not_not]
  cases inB 1 8 g.length <;> rfl
theorem spec_grGood_eq (g : List (List Int)) (h : sized g) : spec_grGood g = some (isGraph g) := by
  obtain ⟨hl, hr⟩ := h
  have hx := loop_any (xs := g) (body := spec_grGood_b1 g) (fun row => !((row.length : Int) == g.length && row.all (inB 0 9))) (fun i => (i : Int)) (.inl false) (.inr ()) (fun i x hx => by
    have hi := getElem?_lt hx
    have hlx := hr x (List.mem_of_getElem? hx)
    simp only [spec_grGood_b1, idxO_nat, hx, Option.bind_some, spec_l1All_eq x 0 9 (by omega), w64_nat (show i < 9223372036854775807 by omega), show ((i : Int) < (g.length : Int)) from by omega, decide_true, if_true, bne]
    cases (x.length : Int) == g.length
    · rfl
    · cases x.all (inB 0 9) <;> rfl) (by simp [spec_grGood_b1])
  unfold spec_grGood isGraph
  rw [spec_l1In_eq, Option.bind_some, show (0 : Int) = ((0 : Nat) : Int) from rfl, hx, List.any_eq_not_all_not]
  simp only [Bool.not_not]
  cases inB 1 8 g.length
  · rfl
  · simp only [Bool.not_true, Bool.false_eq_true, if_false, Bool.true_and, Option.bind_some]
    cases (g.all fun row => (row.length : Int) == g.length && row.all (inB 0 9)) <;> rfl
/-- A graph as a table. -/
theorem isGraph_mat {g : List (List Int)} (h : isGraph g = true) : ∃ (n : Nat) (G : Nat → Nat → Int), 1 ≤ n ∧ n ≤ 8 ∧ g = mat n n G ∧ ∀ i j, i < n → j < n → 0 ≤ G i j ∧ G i j ≤ 9 := by
  simp only [isGraph, Bool.and_eq_true, inB_iff, List.all_eq_true, beq_iff_eq] at h
  obtain ⟨⟨h1, h2⟩, h3⟩ := h
  refine ⟨g.length, fun i j => (g.getD i []).getD j 0, by omega, by omega, ?_, fun i j hi hj => ?_⟩
  · refine (tab_eta g).trans (tab_ext fun i hi => ?_)
    have hlen := (h3 g[i] (List.getElem_mem hi)).1
    have e : g.getD i default = g[i] := by simp [hi]
    have e2 : g.getD i [] = g[i] := by simp [hi]
    rw [e]
    show g[i] = tab g.length (fun j => (g.getD i []).getD j 0)
    rw [e2]
    refine (tab_eta g[i]).trans ?_
    rw [show g[i].length = g.length by omega]
    rfl
  · have hrow := h3 g[i] (List.getElem_mem hi)
    have e : g.getD i [] = g[i] := by simp [hi]
    have hj' : j < g[i].length := by omega
    have e2 : g[i].getD j 0 = g[i][j] := by simp [hj']
    simp only [e, e2]
    exact hrow.2 _ (List.getElem_mem hj')
end Go.PV

/-
  Plain laws: marks on lists, and that they are held.
  Conditions: none.
-/
set_option linter.all false
namespace Go.PV
section
variable {α : Type}
theorem idxO_set {l : List α} {i : Nat} {x : α} (h : i < l.length) : idxO (l.set i x) (i : Int) = some x := by
  rw [idxO_nat, List.getElem?_set]; simp [h]
/-- Marks: the list with f c, f (c + w), .. -/
def marks (w : Nat) (f : Int → α) (n : Nat) (k : Int) : List α := tab n fun i => f (k + (w : Int) * i)
theorem marks_len (w : Nat) (f : Int → α) (n : Nat) (k : Int) : (marks w f n k).length = n := tab_len _ _
theorem mark_loop {body : (List α × Int × Int) → Option ((List α × Int × Int) ⊕ (List α × Int))} (w : Nat) (f : Int → α) (xs : List α) (k : Int) (hk : 0 ≤ k) (hk2 : k + w * xs.length ≤ 4611686018427387904)
    (h : ∀ (l : List α) (i : Nat) (c : Int), i < l.length → i < 4611686018427387904 → 0 ≤ c → c + w ≤ 4611686018427387904 → body (l, c, (i : Int)) = some (.inl (l.set i (f c), c + w, ((i + 1 : Nat) : Int))))
    (hl : xs.length ≤ 4611686018427387904) (h2 : ∀ l c, body (l, c, (l.length : Int)) = some (.inr (l, c))) : loopO body (xs, k, 0) = some (marks w f xs.length k, k + w * xs.length) := by
  have hx := loop_idx (body := body) xs.length (fun i => ((marks w f xs.length k).take i ++ xs.drop i, k + (w : Int) * i, (i : Int))) (marks w f xs.length k, k + w * xs.length) (fun i hi => by
    have hb : (w : Int) * i + w ≤ w * xs.length := by
      have : (w : Int) * ((i + 1 : Nat) : Int) ≤ w * xs.length := Int.mul_le_mul_of_nonneg_left (by omega) (by omega)
      rw [Int.natCast_add, Int.mul_add] at this
      simpa using this
    have hb0 : 0 ≤ (w : Int) * i := Int.mul_nonneg (by omega) (by omega)
    rw [h _ i _ (by simp [marks_len]; omega) (by omega) (by omega) (by omega)]
    rw [set_at _ _ _ (f (k + (w : Int) * i)) (by unfold marks; rw [tab_get hi]) hi]
    congr 3
    rw [Int.natCast_add, Int.mul_add]
    simp
    omega) (by
    have e : (marks w f xs.length k).take xs.length ++ xs.drop xs.length = marks w f xs.length k := by
      rw [List.drop_of_length_le (Nat.le_refl _), List.append_nil, List.take_of_length_le (by rw [marks_len]; exact Nat.le_refl _)]
    rw [e]
    have := h2 (marks w f xs.length k) (k + w * xs.length)
    rw [marks_len] at this
    exact this)
  simpa using hx
theorem held_loop {Y : Type} {body : (Int × Int) → Option ((Int × Int) ⊕ (Y ⊕ Int))} (w : Nat) (n : Nat) (k : Int) (hk : 0 ≤ k) (hk2 : k + w * n ≤ 4611686018427387904) (hn : n ≤ 4611686018427387904)
    (h : ∀ (i : Nat), i < n → 0 ≤ k + (w : Int) * i → k + (w : Int) * i + w ≤ 4611686018427387904 → body (k + (w : Int) * i, (i : Int)) = some (.inl (k + (w : Int) * i + w, ((i + 1 : Nat) : Int))))
    (h2 : ∀ c, body (c, (n : Int)) = some (.inr (.inr c))) : loopO body (k, 0) = some (.inr (k + w * n)) := by
  have hx := loop_idx (body := body) n (fun i => (k + (w : Int) * i, (i : Int))) (.inr (k + w * n)) (fun i hi => by
    have hb : (w : Int) * i + w ≤ w * n := by
      have : (w : Int) * ((i + 1 : Nat) : Int) ≤ w * n := Int.mul_le_mul_of_nonneg_left (by omega) (by omega)
      rw [Int.natCast_add, Int.mul_add] at this
      simpa using this
    have hb0 : 0 ≤ (w : Int) * i := Int.mul_nonneg (by omega) (by omega)
    rw [h i hi (by omega) (by omega)]
    congr 3
    rw [Int.natCast_add, Int.mul_add]
    simp
    omega) (h2 _)
  simpa using hx
end
/-! ### numbers -/
def markI (n : Nat) (k : Int) : List Int := marks 1 (fun c => c) n k
theorem laws_markIntS_eq (xs : List Int) (k : Int) (hk : 0 ≤ k) (hk2 : k + xs.length ≤ 4611686018427387904) : laws_markIntS xs k = some (k + xs.length, markI xs.length k) := by
  unfold laws_markIntS
  rw [mark_loop 1 (fun c => c) xs k hk (by omega) (fun l i c h1 h3 h4 h5 => by
    simp only [laws_markIntS_b1, idxO_lt h1, Option.bind_some, show ((i : Int) < (l.length : Int)) from by omega, decide_true, if_true, Int.toNat_natCast, w64_nat (show i < 9223372036854775807 by omega), w64_id (n := c + 1) (by omega) (by omega)]
    rfl) (by omega) (fun l c => by simp [laws_markIntS_b1])]
  simp [laws_markIntS_k1, markI]
theorem laws_heldIntS_eq (n : Nat) (k : Int) (hk : 0 ≤ k) (hk2 : k + n ≤ 4611686018427387904) : laws_heldIntS (markI n k) k = some (k + n) := by
  unfold laws_heldIntS
  rw [held_loop (body := laws_heldIntS_b1 (markI n k)) 1 n k hk (by omega) (by omega) (fun i hi h3 h4 => by
    have e : idxO (markI n k) (i : Int) = some (k + ((1 : Nat) : Int) * (i : Int)) := by unfold markI marks; rw [idxO_tab hi]
    simp only [laws_heldIntS_b1, show (markI n k).length = n from marks_len _ _ _ _, e, Option.bind_some, show ((i : Int) < (n : Int)) from by omega, decide_true, if_true, w64_nat (show i < 9223372036854775807 by omega), bne_self_eq_false, Bool.false_eq_true, if_false, w64_id (n := k + ((1 : Nat) : Int) * (i : Int) + 1) (by omega) (by omega)]
    rfl) (fun c => by simp [laws_heldIntS_b1, show (markI n k).length = n from marks_len _ _ _ _])]
  simp [laws_heldIntS_k1]
theorem laws_markIntSS_eq (g : List (List Int)) (hg : sized g) : ∃ k' g', laws_markIntSS g 1 = some (k', g') ∧ 0 ≤ k' ∧ k' ≤ 1099511627777 := by
  obtain ⟨hl, hr⟩ := hg
  obtain ⟨y, h1, h2⟩ := loop_run (body := laws_markIntSS_b1) (fun x => ∃ i : Nat, x.2.2 = i ∧ i ≤ g.length ∧ x.1.length = g.length ∧ (∀ j, i ≤ j → x.1[j]? = g[j]?) ∧ 0 ≤ x.2.1 ∧ x.2.1 ≤ 1 + 1048576 * (i : Int)) (fun x => g.length - x.2.2.toNat) (fun y => 0 ≤ y.2 ∧ y.2 ≤ 1099511627777)
    (fun ⟨l, c, t⟩ ⟨i, e1, e2, e3, e4, e5, e6⟩ => by
      simp only at e1 e3 e4 e5 e6
      subst e1
      by_cases hi : i < g.length
      · left
        have hrow := hr g[i] (List.getElem_mem hi)
        have hli : i < l.length := by omega
        have hget : l[i] = g[i] := by
          have := e4 i (Nat.le_refl i)
          rw [List.getElem?_eq_getElem hli, List.getElem?_eq_getElem hi] at this
          exact Option.some.inj this
        refine ⟨(l.set i (markI g[i].length c), c + g[i].length, ((i + 1 : Nat) : Int)), ?_, ⟨i + 1, rfl, hi, by simpa using e3, fun j hj => ?_, by show 0 ≤ c + (g[i].length : Int); omega, by show c + (g[i].length : Int) ≤ _; omega⟩, by simp only [Int.toNat_natCast]; omega⟩
        · simp only [laws_markIntSS_b1, show ((i : Int) < (l.length : Int)) from by omega, decide_true, if_true, idxO_lt hli, hget, Option.bind_some, laws_markIntS_eq g[i] c e5 (by omega), Int.toNat_natCast, w64_nat (show i < 9223372036854775807 by omega)]
        · rw [List.getElem?_set_ne (by omega)]; exact e4 j (by omega)
      · right
        refine ⟨(l, c), by simp [laws_markIntSS_b1, show ¬ ((i : Int) < (l.length : Int)) by omega], e5, by show c ≤ _; omega⟩) (g, 1, 0) ⟨0, rfl, by omega, rfl, fun j _ => rfl, by show (0 : Int) ≤ 1; omega, by show (1 : Int) ≤ _; omega⟩
  refine ⟨y.2, y.1, ?_, h2⟩
  unfold laws_markIntSS
  rw [h1]
  rfl
/-! ### fractions -/
def markR (n : Nat) (k : Int) : List (Int × Int) := marks 2 (fun c => (c, c + 1)) n k
theorem laws_markRatS_eq (xs : List (Int × Int)) (k : Int) (hk : 0 ≤ k) (hk2 : k + 2 * xs.length ≤ 4611686018427387904) : laws_markRatS xs k = some (k + 2 * xs.length, markR xs.length k) := by
  unfold laws_markRatS
  rw [mark_loop 2 (fun c => (c, c + 1)) xs k hk (by omega) (fun l i c h1 h3 h4 h5 => by
    have h6 : ∀ x, i < (l.set i x).length := fun x => by simpa using h1
    simp only [laws_markRatS_b1, idxO_lt h1, idxO_set h1, List.set_set, Option.bind_some, show ((i : Int) < (l.length : Int)) from by omega, decide_true, if_true, Int.toNat_natCast, w64_nat (show i < 9223372036854775807 by omega), w64_id (n := c + 1) (by omega) (by omega), w64_id (n := c + 1 + 1) (by omega) (by omega)]
    congr 3
    simp; omega) (by omega) (fun l c => by simp [laws_markRatS_b1])]
  simp [laws_markRatS_k1, markR]
theorem laws_heldRatS_eq (n : Nat) (k : Int) (hk : 0 ≤ k) (hk2 : k + 2 * n ≤ 4611686018427387904) : laws_heldRatS (markR n k) k = some (k + 2 * n) := by
  unfold laws_heldRatS
  rw [held_loop (body := laws_heldRatS_b1 (markR n k)) 2 n k hk (by omega) (by omega) (fun i hi h3 h4 => by
    have e : idxO (markR n k) (i : Int) = some (k + ((2 : Nat) : Int) * (i : Int), k + ((2 : Nat) : Int) * (i : Int) + 1) := by unfold markR marks; rw [idxO_tab hi]
    simp only [laws_heldRatS_b1, show (markR n k).length = n from marks_len _ _ _ _, e, Option.bind_some, show ((i : Int) < (n : Int)) from by omega, decide_true, if_true, w64_nat (show i < 9223372036854775807 by omega), bne_self_eq_false, Bool.false_eq_true, if_false, w64_id (n := k + ((2 : Nat) : Int) * (i : Int) + 1) (by omega) (by omega), w64_id (n := k + ((2 : Nat) : Int) * (i : Int) + 1 + 1) (by omega) (by omega)]
    congr 3; simp; omega) (fun c => by simp [laws_heldRatS_b1, show (markR n k).length = n from marks_len _ _ _ _])]
  simp [laws_heldRatS_k1]
end Go.PV

/-
  Plain laws: powers of graphs' tables, numbers of all walks.
  Conditions: none.
-/
namespace Go.PV
def capMul (most acc w a : Int) : Int := if most < w64 (acc + w64 (w * a)) then most else w64 (acc + w64 (w * a))
def powStep (n : Nat) (G : Nat → Nat → Int) (most : Int) (F : Nat → Nat → Int) : Nat → Nat → Int := fun i j => foldN n (fun acc k => capMul most acc (F i k) (G k j)) 0
def idM : Nat → Nat → Int := fun i j => if i = j then 1 else 0
def powN (n : Nat) (G : Nat → Nat → Int) (most : Int) : Nat → Nat → Nat → Int
  | 0 => idM
  | m + 1 => powStep n G most (powN n G most m)
theorem impl_emptyGraph_eq (n : Nat) (hn : n ≤ 1048576) : impl_emptyGraph (n : Int) = some (mat n n fun _ _ => 0) := by
  have hx := loop_idx (body := impl_emptyGraph_b1 (n : Int)) n (fun i => (tab n (fun a => if a < i then tab n (fun _ => (0 : Int)) else []), (i : Int))) (mat n n fun _ _ => 0) (fun i hi => by
    simp only [impl_emptyGraph_b1, Int.toNat_natCast, List.length_replicate, idxO_tab hi, Option.bind_some, w64_nat (show i < 9223372036854775807 by omega), show ((i : Int) < (n : Int)) from by omega, decide_true, if_true]
    rw [tab_set hi, rep_tab]
    congr 3
    refine tab_ext fun a _ => ?_
    by_cases h1 : a = i
    · subst h1; simp
    · by_cases h2 : a < i
      · simp [h1, h2, show a < i + 1 by omega]
      · simp [h1, h2, show ¬ a < i + 1 by omega]) (by
    simp only [impl_emptyGraph_b1, Int.toNat_natCast, List.length_replicate, Int.lt_irrefl, decide_false, Bool.false_eq_true, if_false]
    congr 2
    exact tab_ext fun a ha => by simp [ha])
  unfold impl_emptyGraph
  rw [guardO_bind_pos (by omega), Int.toNat_natCast, rep_tab]
  simp only [Nat.not_lt_zero, if_false] at hx
  rw [show (0 : Int) = ((0 : Nat) : Int) from rfl, hx]
  rfl
section impl
variable {n : Nat} {G : Nat → Nat → Int} {most : Int}
theorem impl_b4 (hn : n ≤ 8) {i k : Nat} (hi : i < n) (N : Nat → Nat → Int) (X : List (List Int)) (w : Int) :
    loopO (impl_powerUpTo_b4 most (X, (i : Int)) w (tab n (G k))) (mat n n N, 0) = some (mat n n (fun a b => if a = i then capMul most (N a b) w (G k b) else N a b)) := by
  have hx := loop_idx (body := impl_powerUpTo_b4 most (X, (i : Int)) w (tab n (G k))) n (fun j => (mat n n (fun a b => if a = i ∧ b < j then capMul most (N a b) w (G k b) else N a b), (j : Int))) (mat n n (fun a b => if a = i then capMul most (N a b) w (G k b) else N a b)) (fun j hj => by
    simp only [impl_powerUpTo_b4, tab_len, idxO_tab hj, idxO_mat hi, Option.bind_some, w64_nat (show j < 9223372036854775807 by omega), show ((j : Int) < (n : Int)) from by omega, decide_true, if_true, Int.toNat_natCast]
    rw [mat_set2 hi hj]
    congr 3
    refine mat_ext fun a b _ _ => ?_
    by_cases ha : a = i
    · subst ha
      by_cases hb : b = j
      · subst hb; simp [capMul]
      · by_cases h2 : b < j
        · simp [hb, h2, show b < j + 1 by omega]
        · simp [hb, h2, show ¬ b < j + 1 by omega]
    · simp [ha]) (by
    simp only [impl_powerUpTo_b4, tab_len, Int.lt_irrefl, decide_false, Bool.false_eq_true, if_false]
    congr 2
    exact mat_ext fun a b _ hb => by simp [hb])
  simpa using hx
theorem impl_b3 (hn : n ≤ 8) {i : Nat} (hi : i < n) (N : Nat → Nat → Int) (X : List (List Int)) (w : Nat → Int) :
    loopO (impl_powerUpTo_b3 (mat n n G) most (X, (i : Int)) (tab n w)) (mat n n N, 0) = some (mat n n (fun a b => if a = i then foldN n (fun acc k => capMul most acc (w k) (G k b)) (N a b) else N a b)) := by
  have hx := loop_idx (body := impl_powerUpTo_b3 (mat n n G) most (X, (i : Int)) (tab n w)) n (fun k => (mat n n (fun a b => if a = i then foldN k (fun acc k => capMul most acc (w k) (G k b)) (N a b) else N a b), (k : Int))) (mat n n (fun a b => if a = i then foldN n (fun acc k => capMul most acc (w k) (G k b)) (N a b) else N a b)) (fun k hk => by
    simp only [impl_powerUpTo_b3, tab_len, idxO_tab hk, idxO_mat hk, Option.bind_some, impl_b4 hn hi, impl_powerUpTo_k6, w64_nat (show k < 9223372036854775807 by omega), show ((k : Int) < (n : Int)) from by omega, decide_true, if_true]
    congr 3
    refine mat_ext fun a b _ _ => ?_
    by_cases ha : a = i
    · subst ha; simp [foldN_succ]
    · simp [ha]) (by simp only [impl_powerUpTo_b3, tab_len, Int.lt_irrefl, decide_false, Bool.false_eq_true, if_false])
  simp only [foldN_zero] at hx
  rw [show (fun a b => if a = i then N a b else N a b) = N from by funext a b; split <;> rfl] at hx
  simpa using hx
theorem impl_b2 (hn : n ≤ 8) (F : Nat → Nat → Int) (t : Int) :
    loopO (impl_powerUpTo_b2 (mat n n G) most (mat n n F, t)) (mat n n (fun _ _ => 0), 0) = some (mat n n (powStep n G most F)) := by
  have hx := loop_idx (body := impl_powerUpTo_b2 (mat n n G) most (mat n n F, t)) n (fun i => (mat n n (fun a b => if a < i then powStep n G most F a b else 0), (i : Int))) (mat n n (powStep n G most F)) (fun i hi => by
    simp only [impl_powerUpTo_b2, mat_len, idxO_mat hi, Option.bind_some, impl_b3 hn hi, impl_powerUpTo_k5, w64_nat (show i < 9223372036854775807 by omega), show ((i : Int) < (n : Int)) from by omega, decide_true, if_true]
    congr 3
    refine mat_ext fun a b _ _ => ?_
    by_cases ha : a = i
    · subst ha; simp [powStep]
    · by_cases h2 : a < i
      · simp [ha, h2, show a < i + 1 by omega]
      · simp [ha, h2, show ¬ a < i + 1 by omega]) (by
    simp only [impl_powerUpTo_b2, mat_len, Int.lt_irrefl, decide_false, Bool.false_eq_true, if_false]
    congr 2
    exact mat_ext fun a b ha _ => by simp [ha])
  simpa using hx
theorem impl_b1 (hn : n ≤ 8) (m : Nat) (hm : m ≤ 1048576) : loopO (impl_powerUpTo_b1 (mat n n G) (m : Int) most) (mat n n idM, 0) = some (mat n n (powN n G most m)) := by
  have hx := loop_idx (body := impl_powerUpTo_b1 (mat n n G) (m : Int) most) m (fun t => (mat n n (powN n G most t), (t : Int))) (mat n n (powN n G most m)) (fun t ht => by
    simp only [impl_powerUpTo_b1, mat_len, impl_emptyGraph_eq n (by omega), impl_b2 hn, Option.bind_some, impl_powerUpTo_k4, impl_powerUpTo_k3, w64_nat (show t < 9223372036854775807 by omega), show ((t : Int) < (m : Int)) from by omega, decide_true, if_true]
    rfl) (by simp only [impl_powerUpTo_b1, Int.lt_irrefl, decide_false, Bool.false_eq_true, if_false])
  exact hx
theorem impl_powerUpTo_eq (hn : n ≤ 8) (m : Nat) (hm : m ≤ 1048576) : impl_powerUpTo (mat n n G) (m : Int) most = some (mat n n (powN n G most m)) := by
  have hx := loop_idx (body := impl_powerUpTo_b5 (mat n n fun _ _ => 0)) n (fun i => (mat n n (fun a b => if a < i then idM a b else 0), (i : Int))) (mat n n idM) (fun i hi => by
    simp only [impl_powerUpTo_b5, mat_len, idxO_mat hi, idxO_tab hi, Option.bind_some, w64_nat (show i < 9223372036854775807 by omega), show ((i : Int) < (n : Int)) from by omega, decide_true, if_true, Int.toNat_natCast]
    rw [mat_set2 hi hi]
    congr 3
    refine mat_ext fun a b _ _ => ?_
    by_cases ha : a = i
    · subst ha
      by_cases hb : b = a
      · subst hb; simp [idM]
      · simp [hb, idM, Ne.symm hb]
    · by_cases h2 : a < i
      · simp [ha, h2, show a < i + 1 by omega]
      · simp [ha, h2, show ¬ a < i + 1 by omega]) (by
    simp only [impl_powerUpTo_b5, mat_len, Int.lt_irrefl, decide_false, Bool.false_eq_true, if_false]
    congr 2
    exact mat_ext fun a b ha _ => by simp [ha])
  unfold impl_powerUpTo
  rw [mat_len, impl_emptyGraph_eq n (by omega), Option.bind_some]
  simp only [Nat.not_lt_zero, if_false] at hx
  rw [show (0 : Int) = ((0 : Nat) : Int) from rfl, show (fun (_ _ : Nat) => ((0 : Nat) : Int)) = fun _ _ => (0 : Int) from rfl, hx, Option.bind_some, impl_powerUpTo_k1, impl_b1 hn m hm]
  rfl
end impl
section spec
variable {n : Nat} {G : Nat → Nat → Int}
theorem spec_grCap_eq (v : Int) : spec_grCap v = some (if (1000000001 : Int) < v then 1000000001 else v) := by
  unfold spec_grCap spec_l1Least
  by_cases h : v < 1000000001
  · simp [h, show ¬ (1000000001 : Int) < v by omega]
  · by_cases h2 : (1000000001 : Int) < v
    · simp [h, h2]
    · have : v = 1000000001 := by omega
      subst this; simp
theorem spec_b4 (hn : n ≤ 8) {i j : Nat} (hi : i < n) (hj : j < n) (F : Nat → Nat → Int) (t : Int) (Y : List (List Int)) (Z : List Int) (R : Nat → Int) :
    loopO (spec_grPower_b4 (mat n n G) (t, mat n n F) (Y, (i : Int)) (Z, (j : Int))) (tab n R, 0) = some (tab n (fun b => if b = j then foldN n (fun acc k => capMul 1000000001 acc (F i k) (G k j)) (R b) else R b)) := by
  have hx := loop_idx (body := spec_grPower_b4 (mat n n G) (t, mat n n F) (Y, (i : Int)) (Z, (j : Int))) n (fun l => (tab n (fun b => if b = j then foldN l (fun acc k => capMul 1000000001 acc (F i k) (G k j)) (R b) else R b), (l : Int))) (tab n (fun b => if b = j then foldN n (fun acc k => capMul 1000000001 acc (F i k) (G k j)) (R b) else R b)) (fun l hl => by
    simp only [spec_grPower_b4, mat_len, idxO_tab hj, idxO_mat hi, idxO_mat hl, idxO_tab hl, Option.bind_some, spec_grCap_eq, w64_nat (show l < 9223372036854775807 by omega), show ((l : Int) < (n : Int)) from by omega, decide_true, if_true, Int.toNat_natCast]
    rw [tab_set hj]
    congr 3
    refine tab_ext fun b _ => ?_
    by_cases hb : b = j
    · subst hb; simp only [if_true, foldN_succ]; rfl
    · simp [hb]) (by simp only [spec_grPower_b4, mat_len, Int.lt_irrefl, decide_false, Bool.false_eq_true, if_false])
  simp only [foldN_zero] at hx
  rw [show (fun b => if b = j then R b else R b) = R from by funext b; split <;> rfl] at hx
  simpa using hx
theorem spec_b3 (hn : n ≤ 8) {i : Nat} (hi : i < n) (F : Nat → Nat → Int) (t : Int) (Y : List (List Int)) :
    loopO (spec_grPower_b3 (mat n n G) (t, mat n n F) (Y, (i : Int))) (tab n (fun _ => 0), 0) = some (tab n (powStep n G 1000000001 F i)) := by
  have hx := loop_idx (body := spec_grPower_b3 (mat n n G) (t, mat n n F) (Y, (i : Int))) n (fun j => (tab n (fun b => if b < j then powStep n G 1000000001 F i b else 0), (j : Int))) (tab n (powStep n G 1000000001 F i)) (fun j hj => by
    simp only [spec_grPower_b3, mat_len, spec_b4 hn hi hj, Option.bind_some, spec_grPower_k7, w64_nat (show j < 9223372036854775807 by omega), show ((j : Int) < (n : Int)) from by omega, decide_true, if_true]
    congr 3
    refine tab_ext fun b _ => ?_
    by_cases hb : b = j
    · subst hb; simp [powStep]
    · by_cases h2 : b < j
      · simp [hb, h2, show b < j + 1 by omega]
      · simp [hb, h2, show ¬ b < j + 1 by omega]) (by
    simp only [spec_grPower_b3, mat_len, Int.lt_irrefl, decide_false, Bool.false_eq_true, if_false]
    congr 2
    exact tab_ext fun b hb => by simp [hb])
  simpa using hx
theorem spec_b2 (hn : n ≤ 8) (F : Nat → Nat → Int) (t : Int) : loopO (spec_grPower_b2 (mat n n G) (t, mat n n F)) ([], 0) = some (mat n n (powStep n G 1000000001 F)) := by
  have hx := loop_idx (body := spec_grPower_b2 (mat n n G) (t, mat n n F)) n (fun i => (tab i (fun a => tab n (powStep n G 1000000001 F a)), (i : Int))) (mat n n (powStep n G 1000000001 F)) (fun i hi => by
    simp only [spec_grPower_b2, mat_len, show ((i : Int) < (n : Int)) from by omega, decide_true, if_true]
    rw [guardO_bind_pos (by omega), Int.toNat_natCast, rep_tab, spec_b3 hn hi, Option.bind_some, spec_grPower_k6, guardO_bind_pos (by simp [tab_len]; omega), spec_grPower_k5]
    simp only [w64_nat (show i < 9223372036854775807 by omega)]
    rw [tab_succ i (fun a => tab n (powStep n G 1000000001 F a))]) (by simp only [spec_grPower_b2, mat_len, Int.lt_irrefl, decide_false, Bool.false_eq_true, if_false]; rfl)
  simpa [tab_zero] using hx
theorem spec_b1 (hn : n ≤ 8) (m : Nat) (hm : m ≤ 1048576) : loopO (spec_grPower_b1 (mat n n G)) ((m : Int), mat n n idM) = some (mat n n (powN n G 1000000001 m)) := by
  have hx := loop_idx (body := spec_grPower_b1 (mat n n G)) m (fun t => (((m - t : Nat) : Int), mat n n (powN n G 1000000001 t))) (mat n n (powN n G 1000000001 m)) (fun t ht => by
    simp only [spec_grPower_b1, show (((m - t : Nat) : Int) > 0) from by omega, decide_true, if_true, spec_b2 hn, Option.bind_some, spec_grPower_k4, spec_grPower_k3]
    rw [w64_id (by omega) (by omega), show ((m - t : Nat) : Int) - 1 = ((m - (t + 1) : Nat) : Int) by omega]
    rfl) (by simp [spec_grPower_b1])
  simpa [powN] using hx
theorem spec_grPower_eq (hn : n ≤ 8) (m : Nat) (hm : m ≤ 1048576) : spec_grPower (mat n n G) (m : Int) = some (mat n n (powN n G 1000000001 m)) := by
  have hx := loop_idx (body := spec_grPower_b5 (mat n n G)) n (fun i => (tab i (fun a => tab n (idM a)), (i : Int))) (mat n n idM) (fun i hi => by
    simp only [spec_grPower_b5, mat_len, show ((i : Int) < (n : Int)) from by omega, decide_true, if_true]
    rw [guardO_bind_pos (by omega), guardO_bind_pos (by simp [tab_len]; omega), Int.toNat_natCast, Int.toNat_natCast, rep_tab]
    have e : tab i (fun a => tab n (idM a)) ++ [tab n fun _ => (0 : Int)] = tab (i + 1) (fun a => if a < i then tab n (idM a) else tab n fun _ => 0) := by
      rw [← tab_succ]
      simp only [Nat.lt_irrefl, if_false]
      congr 1
      exact tab_ext fun a ha => by simp [ha]
    rw [e, idxO_tab (Nat.lt_succ_self i), Option.bind_some]
    simp only [Nat.lt_irrefl, if_false, idxO_tab hi, Option.bind_some, w64_nat (show i < 9223372036854775807 by omega)]
    rw [tab_set (Nat.lt_succ_self i), tab_set hi]
    congr 3
    refine tab_ext fun a ha => ?_
    by_cases h1 : a = i
    · subst h1
      simp only [if_true]
      exact tab_ext fun b _ => by simp [idM, eq_comm]
    · simp [h1, show a < i by omega]) (by simp only [spec_grPower_b5, mat_len, Int.lt_irrefl, decide_false, Bool.false_eq_true, if_false]; rfl)
  unfold spec_grPower
  simp only [tab_zero] at hx
  rw [show (0 : Int) = ((0 : Nat) : Int) from rfl, hx, Option.bind_some, spec_grPower_k1, spec_b1 hn m hm]
  rfl
end spec
/-! ### sizes -/
theorem capMul_range {most acc w a : Int} (hm : 0 ≤ most) (hm2 : most ≤ 1000000000000000000) (h1 : 0 ≤ acc) (h2 : acc ≤ most) (h3 : 0 ≤ w) (h4 : w ≤ most) (h5 : 0 ≤ a) (h6 : a ≤ 9) (hs : most ≤ 100000000000000000 ∨ w * a ≤ 8000000000000000000) : 0 ≤ capMul most acc w a ∧ capMul most acc w a ≤ most := by
  have hwa : 0 ≤ w * a := Int.mul_nonneg h3 h5
  have hwa2 : w * a ≤ w * 9 := Int.mul_le_mul_of_nonneg_left h6 h3
  have : w * a ≤ 8000000000000000000 := by rcases hs with h | h <;> omega
  unfold capMul
  rw [w64_id (n := w * a) (by omega) (by omega), w64_id (n := acc + w * a) (by omega) (by omega)]
  split <;> omega
theorem foldN_inv {β : Type} {g : β → Nat → β} {s : β} {n : Nat} (I : β → Prop) (h0 : I s) (hs : ∀ b i, i < n → I b → I (g b i)) : I (foldN n g s) := by
  induction n with
  | zero => exact h0
  | succ n ih => rw [foldN_succ]; exact hs _ n (by omega) (ih fun b i hi => hs b i (by omega))
theorem powN_range {n : Nat} {G : Nat → Nat → Int} {most : Int} (hG : ∀ i j, i < n → j < n → 0 ≤ G i j ∧ G i j ≤ 9) (hm : 1 ≤ most) (hm2 : most ≤ 100000000000000000) : ∀ (m i j : Nat), i < n → j < n → 0 ≤ powN n G most m i j ∧ powN n G most m i j ≤ most
  | 0, i, j, _, _ => by unfold powN idM; split <;> omega
  | m + 1, i, j, hi, hj => by
    show 0 ≤ foldN n _ 0 ∧ foldN n _ 0 ≤ most
    exact foldN_inv (fun x => 0 ≤ x ∧ x ≤ most) ⟨by omega, by omega⟩ fun b k hk hb => by
      have h1 := powN_range hG hm hm2 m i k hi hk
      have h2 := hG k j hk hj
      exact capMul_range (by omega) (by omega) hb.1 hb.2 h1.1 h1.2 h2.1 h2.2 (.inl hm2)
/-- The sum of a list of rows, and what it is when it is cut at a bound. -/
theorem sum_row (xs : List Int) (v : Int) (hv : 0 ≤ v ∧ v ≤ 1000000000000) (hx : ∀ x ∈ xs, 0 ≤ x ∧ x ≤ 1000000001) (hl : xs.length ≤ 8) :
    loopO (impl_TotalWalks_b2 xs) (v, 0) = some (v + xs.sum) := by
  have hb : ∀ i, i ≤ xs.length → 0 ≤ (xs.take i).sum ∧ (xs.take i).sum ≤ 1000000001 * i := by
    intro i
    induction i with
    | zero => simp
    | succ i ih =>
      intro hi
      have h1 := ih (by omega)
      have h2 := hx xs[i] (List.getElem_mem (by omega))
      rw [List.take_add_one, List.sum_append, List.getElem?_eq_getElem (by omega)]
      simp only [Option.toList_some, List.sum_cons, List.sum_nil]
      omega
  have h := loop_idx (body := impl_TotalWalks_b2 xs) xs.length (fun i => (v + (xs.take i).sum, (i : Int))) (v + xs.sum) (fun i hi => by
    have h1 := hb i (by omega)
    have h2 := hb (i + 1) (by omega)
    have h3 : (xs.take (i + 1)).sum = (xs.take i).sum + xs[i] := by
      rw [List.take_add_one, List.sum_append, List.getElem?_eq_getElem hi]; simp
    simp only [impl_TotalWalks_b2, idxO_lt hi, Option.bind_some, w64_nat (show i < 9223372036854775807 by omega), show ((i : Int) < (xs.length : Int)) from by omega, decide_true, if_true]
    rw [w64_id (by omega) (by omega), h3, Int.add_assoc]) (by simp [impl_TotalWalks_b2])
  simpa using h
def capAt (x : Int) : Int := if 1000000001 < x then 1000000001 else x
theorem cap_row (xs : List Int) (v : Int) (hv : 0 ≤ v) (hx : ∀ x ∈ xs, 0 ≤ x ∧ x ≤ 1000000001) (hl : xs.length ≤ 8) :
    loopO (spec_gwTotal_b2 xs) (capAt v, 0) = some (capAt (v + xs.sum)) := by
  have hb : ∀ i, i ≤ xs.length → 0 ≤ (xs.take i).sum := by
    intro i
    induction i with
    | zero => simp
    | succ i ih =>
      intro hi
      have h1 := ih (by omega)
      have h2 := hx xs[i] (List.getElem_mem (by omega))
      rw [List.take_add_one, List.sum_append, List.getElem?_eq_getElem (by omega)]
      simp only [Option.toList_some, List.sum_cons, List.sum_nil]
      omega
  have h := loop_idx (body := spec_gwTotal_b2 xs) xs.length (fun i => (capAt (v + (xs.take i).sum), (i : Int))) (capAt (v + xs.sum)) (fun i hi => by
    have h1 := hb i (by omega)
    have h2 := hx xs[i] (List.getElem_mem hi)
    have h3 : (xs.take (i + 1)).sum = (xs.take i).sum + xs[i] := by
      rw [List.take_add_one, List.sum_append, List.getElem?_eq_getElem hi]; simp
    simp only [spec_gwTotal_b2, idxO_lt hi, Option.bind_some, spec_grCap_eq, w64_nat (show i < 9223372036854775807 by omega), show ((i : Int) < (xs.length : Int)) from by omega, decide_true, if_true]
    rw [h3]
    have h4 : 0 ≤ capAt (v + (xs.take i).sum) ∧ capAt (v + (xs.take i).sum) ≤ 1000000001 := by unfold capAt; split <;> omega
    rw [w64_id (by omega) (by omega)]
    congr 3
    unfold capAt
    (repeat' split) <;> omega) (by simp [spec_gwTotal_b2])
  simpa using h
def total (g : List (List Int)) : Int := (g.map List.sum).sum
theorem sum_nonneg {xs : List Int} (hx : ∀ x ∈ xs, 0 ≤ x ∧ x ≤ 1000000001) : 0 ≤ xs.sum ∧ xs.sum ≤ 1000000001 * xs.length := by
  induction xs with
  | nil => simp
  | cons x xs ih =>
    have h1 := hx x (by simp)
    have h2 := ih fun y hy => hx y (by simp [hy])
    simp only [List.sum_cons, List.length_cons]; omega
theorem total_take {g : List (List Int)} (hx : ∀ row ∈ g, row.length ≤ 8 ∧ ∀ x ∈ row, 0 ≤ x ∧ x ≤ 1000000001) : ∀ i, i ≤ g.length → 0 ≤ total (g.take i) ∧ total (g.take i) ≤ 10000000000 * i := by
  intro i
  induction i with
  | zero => simp [total]
  | succ i ih =>
    intro hi
    have h1 := ih (by omega)
    have h2 := hx g[i] (List.getElem_mem (by omega))
    have h3 := sum_nonneg h2.2
    unfold total at h1 ⊢
    rw [List.take_add_one, List.map_append, List.sum_append, List.getElem?_eq_getElem (by omega)]
    simp only [Option.toList_some, List.map_cons, List.map_nil, List.sum_cons, List.sum_nil]
    omega
theorem total_succ {g : List (List Int)} {i : Nat} (hi : i < g.length) : total (g.take (i + 1)) = total (g.take i) + g[i].sum := by
  unfold total
  rw [List.take_add_one, List.map_append, List.sum_append, List.getElem?_eq_getElem hi]; simp
theorem impl_total (g : List (List Int)) (hl : g.length ≤ 8) (hx : ∀ row ∈ g, row.length ≤ 8 ∧ ∀ x ∈ row, 0 ≤ x ∧ x ≤ 1000000001) : loopO (impl_TotalWalks_b1 g) (0, 0) = some (total g) := by
  have h := loop_idx (body := impl_TotalWalks_b1 g) g.length (fun i => (total (g.take i), (i : Int))) (total g) (fun i hi => by
    have h1 := total_take hx i (by omega)
    have h2 := hx g[i] (List.getElem_mem hi)
    simp only [impl_TotalWalks_b1, idxO_lt hi, Option.bind_some, sum_row g[i] _ ⟨h1.1, by omega⟩ h2.2 h2.1, impl_TotalWalks_k2, w64_nat (show i < 9223372036854775807 by omega), show ((i : Int) < (g.length : Int)) from by omega, decide_true, if_true]
    rw [total_succ hi]) (by simp [impl_TotalWalks_b1])
  exact h
theorem spec_total (g : List (List Int)) (hl : g.length ≤ 8) (hx : ∀ row ∈ g, row.length ≤ 8 ∧ ∀ x ∈ row, 0 ≤ x ∧ x ≤ 1000000001) : loopO (spec_gwTotal_b1 g) (0, 0) = some (capAt (total g)) := by
  have h := loop_idx (body := spec_gwTotal_b1 g) g.length (fun i => (capAt (total (g.take i)), (i : Int))) (capAt (total g)) (fun i hi => by
    have h1 := total_take hx i (by omega)
    have h2 := hx g[i] (List.getElem_mem hi)
    simp only [spec_gwTotal_b1, idxO_lt hi, Option.bind_some, cap_row g[i] _ h1.1 h2.2 h2.1, spec_gwTotal_k2, w64_nat (show i < 9223372036854775807 by omega), show ((i : Int) < (g.length : Int)) from by omega, decide_true, if_true]
    rw [total_succ hi]) (by simp [spec_gwTotal_b1])
  exact h
theorem mat_rows {n : Nat} {F : Nat → Nat → Int} (hn : n ≤ 8) (hF : ∀ i j, i < n → j < n → 0 ≤ F i j ∧ F i j ≤ 1000000001) : ∀ row ∈ mat n n F, row.length ≤ 8 ∧ ∀ x ∈ row, 0 ≤ x ∧ x ≤ 1000000001 := by
  intro row hr
  obtain ⟨i, hi, rfl⟩ := tab_mem.1 hr
  refine ⟨by rw [tab_len]; exact hn, fun x hx => ?_⟩
  obtain ⟨j, hj, rfl⟩ := tab_mem.1 hx
  exact hF i j hi hj
/-- The number of all walks, if it is told. -/
def totalWalks (g : List (List Int)) (m : Int) : Int × Bool :=
  if isGraph g && inB 0 12 m then
    let t := total (mat g.length g.length (powN g.length (fun i j => (g.getD i []).getD j 0) 1000000001 m.toNat))
    if t > 1000000000 then (0, false) else (t, true)
  else (0, false)
theorem mat_self {n : Nat} {G : Nat → Nat → Int} (i j : Nat) (hi : i < n) (hj : j < n) : ((mat n n G).getD i []).getD j 0 = G i j := by
  simp [List.getD, mat, tab_get hi, tab_get hj]
theorem powN_congr {n : Nat} {G G' : Nat → Nat → Int} {most : Int} (h : ∀ i j, i < n → j < n → G i j = G' i j) : ∀ m i j, j < n → powN n G most m i j = powN n G' most m i j
  | 0, _, _, _ => rfl
  | m + 1, i, j, hj => by
    show foldN n _ 0 = foldN n _ 0
    exact foldN_ext fun b k hk => by rw [powN_congr h m i k hk, h k j hk hj]
theorem impl_TotalWalks_eq (g : List (List Int)) (m : Int) (hs : sized g) : impl_TotalWalks g m = some (totalWalks g m) := by
  unfold impl_TotalWalks totalWalks impl_isWalk
  rw [impl_isGraph_eq g hs]
  simp only [Option.bind_some, impl_within_eq]
  cases hg : isGraph g
  · rfl
  · cases hm : inB 0 12 m
    · rfl
    · obtain ⟨n, G, h1, h2, rfl, hG⟩ := isGraph_mat hg
      have hm' := inB_iff.1 hm
      obtain ⟨k, rfl⟩ := Int.eq_ofNat_of_zero_le hm'.1
      have e : mat n n (powN n (fun i j => ((mat n n G).getD i []).getD j 0) 1000000001 k) = mat n n (powN n G 1000000001 k) := mat_ext fun i j _ hj => powN_congr (fun i j hi hj => mat_self i j hi hj) k i j hj
      simp only [if_true, Bool.not_true, Bool.false_eq_true, if_false, Bool.and_self, impl_power, impl_powerUpTo_eq h2 k (by omega), Option.bind_some, mat_len, Int.toNat_natCast, e]
      rw [impl_total _ (by rw [mat_len]; exact h2) (mat_rows h2 fun i j hi hj => powN_range hG (by decide) (by decide) k i j hi hj)]
      simp only [Option.bind_some, impl_TotalWalks_k1]
      by_cases ht : total (mat n n (powN n G 1000000001 k)) > 1000000000 <;> simp [ht]
theorem spec_gwTotal_eq {n : Nat} {G : Nat → Nat → Int} (h2 : n ≤ 8) (hG : ∀ i j, i < n → j < n → 0 ≤ G i j ∧ G i j ≤ 9) (k : Nat) (hk : k ≤ 1048576) : spec_gwTotal (mat n n G) (k : Int) = some (capAt (total (mat n n (powN n G 1000000001 k)))) := by
  unfold spec_gwTotal
  rw [spec_grPower_eq h2 k hk, Option.bind_some, spec_total _ (by rw [mat_len]; exact h2) (mat_rows h2 fun i j hi hj => powN_range hG (by decide) (by decide) k i j hi hj)]
  rfl
theorem spec_TotalWalks_eq (g : List (List Int)) (m : Int) (hs : sized g) : spec_TotalWalks g m = some (totalWalks g m) := by
  unfold spec_TotalWalks totalWalks
  rw [spec_grGood_eq g hs]
  simp only [Option.bind_some, spec_grSteps, spec_l1In_eq]
  cases hg : isGraph g
  · rfl
  · cases hm : inB 0 12 m
    · rfl
    · obtain ⟨n, G, h1, h2, rfl, hG⟩ := isGraph_mat hg
      have hm' := inB_iff.1 hm
      obtain ⟨k, rfl⟩ := Int.eq_ofNat_of_zero_le hm'.1
      have e : mat n n (powN n (fun i j => ((mat n n G).getD i []).getD j 0) 1000000001 k) = mat n n (powN n G 1000000001 k) := mat_ext fun i j _ hj => powN_congr (fun i j hi hj => mat_self i j hi hj) k i j hj
      simp only [if_true, Bool.not_true, Bool.false_eq_true, if_false, Bool.and_self, Option.bind_some, mat_len, Int.toNat_natCast, e, spec_gwTotal_eq h2 hG k (by omega)]
      by_cases ht : total (mat n n (powN n G 1000000001 k)) > 1000000000
      · have : capAt (total (mat n n (powN n G 1000000001 k))) > 1000000000 := by unfold capAt; split <;> omega
        simp [ht, this]
      · have : capAt (total (mat n n (powN n G 1000000001 k))) = total (mat n n (powN n G 1000000001 k)) := by unfold capAt; split <;> omega
        simp [ht, this]
theorem laws_FnExactTotalWalks_eq (g : List (List Int)) (m : Int) (hl : g.length ≤ 9223372036854775807) (hr : ∀ row ∈ g, row.length ≤ 9223372036854775807) : laws_FnExactTotalWalks g m = some true := by
  obtain ⟨v, h1, h2⟩ := laws_szIntSS_eq g hl hr
  unfold laws_FnExactTotalWalks
  rw [h1, Option.bind_some]
  by_cases hv : v < 0
  · simp [hv]
  · have hs := h2 (by omega)
    simp only [hv, decide_false, Bool.false_eq_true, if_false, laws_toIntSS_eq g hs, spec_TotalWalks_eq g m hs, impl_TotalWalks_eq g m hs, laws_eqIntSS_self g hs, Option.bind_some]
    simp
/-! ### digits -/
theorem digits_ends (v : Int) (h : v ≤ 9223372036854775807) (d : Int) : ∃ r, loopO impl_WalkDigits_b1 (v, d) = some r := by
  obtain ⟨y, h1, _⟩ := loop_run (body := impl_WalkDigits_b1) (fun x => x.1 ≤ 9223372036854775807) (fun x => x.1.toNat) (fun _ => True) (fun ⟨a, b⟩ ha => by
    simp only at ha
    by_cases hlt : a > 1
    · left
      have h3 : Int.tdiv a 2 = a / 2 := Int.tdiv_eq_ediv_of_nonneg (by omega)
      refine ⟨(a / 2, w64 (b + 1)), ?_, by simp only []; omega, by simp only []; omega⟩
      simp only [impl_WalkDigits_b1, hlt, decide_true, if_true, h3]
      rw [w64_id (n := a / 2) (by omega) (by omega)]
    · right; exact ⟨b, by simp [impl_WalkDigits_b1, hlt], trivial⟩) (v, d) h
  exact ⟨y, h1⟩
theorem digits_same : spec_WalkDigits_b1 = impl_WalkDigits_b1 := rfl
theorem WalkDigits_same (g : List (List Int)) (m : Int) (hs : sized g) : ∃ r, impl_WalkDigits g m = some r ∧ spec_WalkDigits g m = some r := by
  unfold impl_WalkDigits spec_WalkDigits
  rw [impl_TotalWalks_eq g m hs, spec_grGood_eq g hs]
  simp only [Option.bind_some, spec_grSteps, spec_l1In_eq, totalWalks, digits_same]
  cases hg : isGraph g
  · exact ⟨_, rfl, rfl⟩
  · cases hm : inB 0 12 m
    · exact ⟨_, rfl, rfl⟩
    · obtain ⟨n, G, h1, h2, rfl, hG⟩ := isGraph_mat hg
      have hm' := inB_iff.1 hm
      obtain ⟨k, rfl⟩ := Int.eq_ofNat_of_zero_le hm'.1
      have e : mat n n (powN n (fun i j => ((mat n n G).getD i []).getD j 0) 1000000001 k) = mat n n (powN n G 1000000001 k) := mat_ext fun i j _ hj => powN_congr (fun i j hi hj => mat_self i j hi hj) k i j hj
      have hpos : 0 ≤ total (mat n n (powN n G 1000000001 k)) := by
        have := total_take (mat_rows h2 fun i j hi hj => powN_range hG (by decide) (by decide) k i j hi hj) n (by rw [mat_len]; exact Nat.le_refl _)
        rw [List.take_of_length_le (by rw [mat_len]; exact Nat.le_refl _)] at this
        exact this.1
      simp only [if_true, Bool.not_true, Bool.false_eq_true, if_false, Bool.and_self, Option.bind_some, mat_len, Int.toNat_natCast, e, spec_gwTotal_eq h2 hG k (by omega)]
      by_cases ht : total (mat n n (powN n G 1000000001 k)) > 1000000000
      · have : capAt (total (mat n n (powN n G 1000000001 k))) > 1000000000 := by unfold capAt; split <;> omega
        simp [ht, this]
      · have : capAt (total (mat n n (powN n G 1000000001 k))) = total (mat n n (powN n G 1000000001 k)) := by unfold capAt; split <;> omega
        obtain ⟨r, hr⟩ := digits_ends (total (mat n n (powN n G 1000000001 k))) (by omega) 0
        by_cases hz : total (mat n n (powN n G 1000000001 k)) = 0
        · have hc0 : capAt 0 = 0 := rfl
          simp [hz, hc0]
        · refine ⟨(r, true), ?_, ?_⟩ <;> simp [ht, hz, this, hr, impl_WalkDigits_k1, spec_WalkDigits_k1]
theorem laws_FnExactWalkDigits_eq (g : List (List Int)) (m : Int) (hl : g.length ≤ 9223372036854775807) (hr : ∀ row ∈ g, row.length ≤ 9223372036854775807) : laws_FnExactWalkDigits g m = some true := by
  obtain ⟨v, h1, h2⟩ := laws_szIntSS_eq g hl hr
  unfold laws_FnExactWalkDigits
  rw [h1, Option.bind_some]
  by_cases hv : v < 0
  · simp [hv]
  · have hs := h2 (by omega)
    obtain ⟨r, h3, h4⟩ := WalkDigits_same g m hs
    simp only [hv, decide_false, Bool.false_eq_true, if_false, laws_toIntSS_eq g hs, h3, h4, laws_eqIntSS_self g hs, Option.bind_some]
    simp
end Go.PV

/-
  Plain laws: characteristic polynomials.
  Conditions: none.
-/
set_option linter.all false
namespace Go.PV
/-- A product as the words reckon it. -/
def mulW (n : Nat) (A M : Nat → Nat → Int) (i j : Nat) : Int := foldN n (fun s l => w64 (s + w64 (A i l * M l j))) 0
def trW (n : Nat) (P : Nat → Nat → Int) : Int := foldN n (fun s i => w64 (s + P i i)) 0
def addD (M : Nat → Nat → Int) (c : Int) (i j : Nat) : Int := if i = j then w64 (M i j + c) else M i j
section
variable {n : Nat} {A : Nat → Nat → Int}
theorem spec_zb3 (hn : n ≤ 8) (w : Int) (g r : Nat → Int) : loopO (spec_zeTimes_b3 w (tab n g)) (tab n r, 0) = some (tab n fun j => w64 (r j + w64 (w * g j))) := by
  have hx := loop_idx (body := spec_zeTimes_b3 w (tab n g)) n (fun j => (tab n (fun b => if b < j then w64 (r b + w64 (w * g b)) else r b), (j : Int))) (tab n fun j => w64 (r j + w64 (w * g j))) (fun j hj => by
    simp only [spec_zeTimes_b3, tab_len, idxO_tab hj, Option.bind_some, w64_nat (show j < 9223372036854775807 by omega), show ((j : Int) < (n : Int)) from by omega, decide_true, if_true, Int.toNat_natCast, Nat.lt_irrefl, if_false]
    rw [tab_set hj]
    congr 3
    refine tab_ext fun b _ => ?_
    by_cases hb : b = j
    · subst hb; simp
    · by_cases h2 : b < j
      · simp [hb, h2, show b < j + 1 by omega]
      · simp [hb, h2, show ¬ b < j + 1 by omega]) (by
    simp only [spec_zeTimes_b3, tab_len, Int.lt_irrefl, decide_false, Bool.false_eq_true, if_false]
    congr 2
    exact tab_ext fun b hb => by simp [hb])
  simp only [Nat.not_lt_zero, if_false] at hx
  exact hx
theorem spec_zb2 (hn : n ≤ 8) (M : Nat → Nat → Int) (a : Nat → Int) : loopO (spec_zeTimes_b2 (mat n n M) (tab n a)) (tab n (fun _ => 0), 0) = some (tab n fun j => foldN n (fun s l => w64 (s + w64 (a l * M l j))) 0) := by
  have hx := loop_idx (body := spec_zeTimes_b2 (mat n n M) (tab n a)) n (fun l => (tab n (fun j => foldN l (fun s l => w64 (s + w64 (a l * M l j))) 0), (l : Int))) (tab n fun j => foldN n (fun s l => w64 (s + w64 (a l * M l j))) 0) (fun l hl => by
    simp only [spec_zeTimes_b2, tab_len, idxO_tab hl, idxO_mat hl, Option.bind_some, spec_zb3 hn, spec_zeTimes_k4, w64_nat (show l < 9223372036854775807 by omega), show ((l : Int) < (n : Int)) from by omega, decide_true, if_true, foldN_succ]) (by
    simp only [spec_zeTimes_b2, tab_len, Int.lt_irrefl, decide_false, Bool.false_eq_true, if_false])
  exact hx
theorem spec_zeTimes_eq (hn : n ≤ 8) (M : Nat → Nat → Int) : spec_zeTimes (mat n n A) (mat n n M) = some (mat n n (mulW n A M)) := by
  have hx := loop_idx (body := spec_zeTimes_b1 (mat n n A) (mat n n M)) n (fun i => (tab i (fun i => tab n (mulW n A M i)), (i : Int))) (mat n n (mulW n A M)) (fun i hi => by
    simp only [spec_zeTimes_b1, mat_len, idxO_mat hi, Option.bind_some, show ((i : Int) < (n : Int)) from by omega, decide_true, if_true]
    rw [guardO_bind_pos (by omega), Int.toNat_natCast, rep_tab, spec_zb2 hn]
    simp only [Option.bind_some, spec_zeTimes_k3, spec_zeTimes_k2]
    rw [guardO_bind_pos (by simp [tab_len]; omega), w64_nat (show i < 9223372036854775807 by omega), ← tab_succ i (fun i => tab n (mulW n A M i))]
    rfl) (by
    simp only [spec_zeTimes_b1, mat_len, Int.lt_irrefl, decide_false, Bool.false_eq_true, if_false]
    rfl)
  unfold spec_zeTimes
  rw [show ([], (0 : Int)) = (tab 0 (fun i => tab n (mulW n A M i)), ((0 : Nat) : Int)) from rfl, hx]
  rfl
theorem spec_zeTrace_eq (hn : n ≤ 8) (P : Nat → Nat → Int) : spec_zeTrace (mat n n P) = some (trW n P) := by
  have hx := loop_idx (body := spec_zeTrace_b1 (mat n n P)) n (fun i => (foldN i (fun s i => w64 (s + P i i)) 0, (i : Int))) (trW n P) (fun i hi => by
    simp only [spec_zeTrace_b1, mat_len, idxO_mat hi, idxO_tab hi, Option.bind_some, w64_nat (show i < 9223372036854775807 by omega), show ((i : Int) < (n : Int)) from by omega, decide_true, if_true, foldN_succ]) (by
    simp only [spec_zeTrace_b1, mat_len, Int.lt_irrefl, decide_false, Bool.false_eq_true, if_false]
    rfl)
  unfold spec_zeTrace
  rw [show ((0 : Int), (0 : Int)) = (foldN 0 (fun s i => w64 (s + P i i)) 0, ((0 : Nat) : Int)) from rfl, hx]
  rfl
/-! ### the program's product -/
theorem impl_cb4 (hn : n ≤ 8) {i j : Nat} (hi : i < n) (hj : j < n) (S N : Nat → Nat → Int) (X : List (List Int)) (t : Int) (Y : List (List Int)) :
    loopO (impl_characteristic_b4 (mat n n A) (mat n n S) (X, t, (i : Int)) (Y, (j : Int))) (mat n n N, 0) = some (mat n n (fun a b => if a = i ∧ b = j then foldN n (fun s l => w64 (s + w64 (A i l * S l j))) (N i j) else N a b)) := by
  have hx := loop_idx (body := impl_characteristic_b4 (mat n n A) (mat n n S) (X, t, (i : Int)) (Y, (j : Int))) n (fun l => (mat n n (fun a b => if a = i ∧ b = j then foldN l (fun s l => w64 (s + w64 (A i l * S l j))) (N i j) else N a b), (l : Int))) (mat n n (fun a b => if a = i ∧ b = j then foldN n (fun s l => w64 (s + w64 (A i l * S l j))) (N i j) else N a b)) (fun l hl => by
    simp only [impl_characteristic_b4, mat_len, idxO_mat hi, idxO_mat hl, idxO_tab hj, idxO_tab hl, Option.bind_some, w64_nat (show l < 9223372036854775807 by omega), show ((l : Int) < (n : Int)) from by omega, decide_true, if_true, Int.toNat_natCast, and_self]
    rw [mat_set2 hi hj]
    congr 3
    refine mat_ext fun a b _ _ => ?_
    by_cases ha : a = i
    · subst ha
      by_cases hb : b = j
      · subst hb; simp [foldN_succ]
      · simp [hb]
    · simp [ha]) (by
    simp only [impl_characteristic_b4, mat_len, Int.lt_irrefl, decide_false, Bool.false_eq_true, if_false])
  have e : (fun a b => if a = i ∧ b = j then foldN 0 (fun s l => w64 (s + w64 (A i l * S l j))) (N i j) else N a b) = N := by
    funext a b
    by_cases h : a = i ∧ b = j
    · obtain ⟨rfl, rfl⟩ := h; simp [foldN_zero]
    · rw [if_neg h]
  simp only [e] at hx
  exact hx
theorem impl_cb3 (hn : n ≤ 8) {i : Nat} (hi : i < n) (S N : Nat → Nat → Int) (X : List (List Int)) (t : Int) (h0 : ∀ b, N i b = 0) :
    loopO (impl_characteristic_b3 (mat n n A) (mat n n S) (X, t, (i : Int))) (mat n n N, 0) = some (mat n n (fun a b => if a = i then mulW n A S i b else N a b)) := by
  have hx := loop_idx (body := impl_characteristic_b3 (mat n n A) (mat n n S) (X, t, (i : Int))) n (fun j => (mat n n (fun a b => if a = i ∧ b < j then mulW n A S i b else N a b), (j : Int))) (mat n n (fun a b => if a = i then mulW n A S i b else N a b)) (fun j hj => by
    simp only [impl_characteristic_b3, mat_len, impl_cb4 hn hi hj, Option.bind_some, impl_characteristic_k7, w64_nat (show j < 9223372036854775807 by omega), show ((j : Int) < (n : Int)) from by omega, decide_true, if_true]
    congr 3
    refine mat_ext fun a b _ _ => ?_
    by_cases ha : a = i
    · subst ha
      by_cases hb : b = j
      · subst hb; simp [h0, mulW]
      · by_cases h2 : b < j
        · simp [hb, h2, show b < j + 1 by omega]
        · simp [hb, h2, show ¬ b < j + 1 by omega]
    · simp [ha]) (by
    simp only [impl_characteristic_b3, mat_len, Int.lt_irrefl, decide_false, Bool.false_eq_true, if_false]
    congr 2
    exact mat_ext fun a b _ hb => by simp [hb])
  simp only [Nat.not_lt_zero, and_false, if_false] at hx
  exact hx
theorem impl_cb2 (hn : n ≤ 8) (S : Nat → Nat → Int) :
    loopO (impl_characteristic_b2 (mat n n A) (mat n n S)) (mat n n (fun _ _ => 0), 0, 0) = some (mat n n (mulW n A S), trW n (mulW n A S)) := by
  have hx := loop_idx (body := impl_characteristic_b2 (mat n n A) (mat n n S)) n (fun i => (mat n n (fun a b => if a < i then mulW n A S a b else 0), foldN i (fun s i => w64 (s + mulW n A S i i)) 0, (i : Int))) (mat n n (mulW n A S), trW n (mulW n A S)) (fun i hi => by
    simp only [impl_characteristic_b2, mat_len, impl_cb3 hn hi S (fun a b => if a < i then mulW n A S a b else 0) _ _ (fun b => by simp), Option.bind_some, impl_characteristic_k6, impl_characteristic_k5, idxO_mat hi, idxO_tab hi, w64_nat (show i < 9223372036854775807 by omega), show ((i : Int) < (n : Int)) from by omega, decide_true, if_true, foldN_succ]
    congr 3
    refine mat_ext fun a b _ _ => ?_
    by_cases ha : a = i
    · subst ha; simp
    · by_cases h2 : a < i
      · simp [ha, h2, show a < i + 1 by omega]
      · simp [ha, h2, show ¬ a < i + 1 by omega]) (by
    simp only [impl_characteristic_b2, mat_len, Int.lt_irrefl, decide_false, Bool.false_eq_true, if_false]
    congr 3
    exact mat_ext fun a b ha _ => by simp [ha])
  simp only [Nat.not_lt_zero, if_false] at hx
  exact hx
/-! ### the diagonal -/
theorem diag_step {i : Nat} (hi : i < n) (M : Nat → Nat → Int) (c : Int) : (mat n n (fun a b => if a < i then addD M c a b else M a b)).set i ((tab n (fun b => if i < i then addD M c i b else M i b)).set i (w64 (M i i + c))) = mat n n (fun a b => if a < i + 1 then addD M c a b else M a b) := by
  rw [mat_set2 hi hi]
  refine mat_ext fun a b _ _ => ?_
  by_cases ha : a = i
  · subst ha
    by_cases hb : b = a
    · subst hb; simp [addD]
    · simp [hb, addD, Ne.symm hb]
  · by_cases h2 : a < i
    · simp [ha, h2, show a < i + 1 by omega]
    · simp [ha, h2, show ¬ a < i + 1 by omega]
theorem impl_cb5 (hn : n ≤ 8) (M : Nat → Nat → Int) (cs : Nat → Int) {k : Nat} (hk : k + 1 ≤ n) :
    loopO (impl_characteristic_b5 (mat n n A) (tab (n + 1) cs, mat n n M, ((k + 1 : Nat) : Int))) (mat n n M, 0) = some (mat n n (addD M (cs (n - k)))) := by
  have e1 : w64 ((n : Int) - ((k + 1 : Nat) : Int)) = ((n - (k + 1) : Nat) : Int) := by rw [w64_id (by omega) (by omega)]; omega
  have e2 : w64 (((n - (k + 1) : Nat) : Int) + 1) = ((n - k : Nat) : Int) := by rw [w64_id (by omega) (by omega)]; omega
  have hx := loop_idx (body := impl_characteristic_b5 (mat n n A) (tab (n + 1) cs, mat n n M, ((k + 1 : Nat) : Int))) n (fun i => (mat n n (fun a b => if a < i then addD M (cs (n - k)) a b else M a b), (i : Int))) (mat n n (addD M (cs (n - k)))) (fun i hi => by
    simp only [impl_characteristic_b5, mat_len, e1, e2, idxO_mat hi, idxO_tab hi, idxO_tab (show n - k < n + 1 by omega), Option.bind_some, w64_nat (show i < 9223372036854775807 by omega), show ((i : Int) < (n : Int)) from by omega, decide_true, if_true, Int.toNat_natCast]
    congr 3
    have := diag_step hi M (cs (n - k))
    simp only [Nat.lt_irrefl, if_false] at this ⊢
    exact this) (by
    simp only [impl_characteristic_b5, mat_len, Int.lt_irrefl, decide_false, Bool.false_eq_true, if_false]
    congr 2
    exact mat_ext fun a b ha _ => by simp [ha])
  simp only [Nat.not_lt_zero, if_false] at hx
  exact hx
theorem spec_cb2 (hn : n ≤ 8) (P : Nat → Nat → Int) (cs : Nat → Int) {k : Nat} (hk : k + 1 ≤ n) (X : List (List Int)) (t : Int) :
    loopO (spec_zeCoefficients_b2 (mat n n A) (tab (n + 1) cs, X, ((k + 1 : Nat) : Int)) (mat n n P) t) (mat n n P, 0) =
      some (tab (n + 1) (fun i => if i = n - (k + 1) then w64 (Int.tdiv (w64 (0 - t)) ((k + 1 : Nat) : Int)) else cs i), mat n n (addD P (w64 (Int.tdiv (w64 (0 - t)) ((k + 1 : Nat) : Int))))) := by
  have e1 : w64 ((n : Int) - ((k + 1 : Nat) : Int)) = ((n - (k + 1) : Nat) : Int) := by rw [w64_id (by omega) (by omega)]; omega
  have hx := loop_idx (body := spec_zeCoefficients_b2 (mat n n A) (tab (n + 1) cs, X, ((k + 1 : Nat) : Int)) (mat n n P) t) n (fun i => (mat n n (fun a b => if a < i then addD P (w64 (Int.tdiv (w64 (0 - t)) ((k + 1 : Nat) : Int))) a b else P a b), (i : Int))) (tab (n + 1) (fun i => if i = n - (k + 1) then w64 (Int.tdiv (w64 (0 - t)) ((k + 1 : Nat) : Int)) else cs i), mat n n (addD P (w64 (Int.tdiv (w64 (0 - t)) ((k + 1 : Nat) : Int))))) (fun i hi => by
    simp only [spec_zeCoefficients_b2, mat_len, e1, Int.toNat_natCast, tab_set (show n - (k + 1) < n + 1 by omega), idxO_mat hi, idxO_tab hi, idxO_tab (show n - (k + 1) < n + 1 by omega), Option.bind_some, w64_nat (show i < 9223372036854775807 by omega), show ((i : Int) < (n : Int)) from by omega, decide_true, if_true]
    congr 3
    have := diag_step hi P (w64 (Int.tdiv (w64 (0 - t)) ((k + 1 : Nat) : Int)))
    simp only [Nat.lt_irrefl, if_false] at this ⊢
    exact this) (by
    simp only [spec_zeCoefficients_b2, mat_len, Int.lt_irrefl, decide_false, Bool.false_eq_true, if_false, e1, Int.toNat_natCast, tab_set (show n - (k + 1) < n + 1 by omega)]
    congr 3
    exact mat_ext fun a b ha _ => by simp [ha])
  simp only [Nat.not_lt_zero, if_false] at hx
  exact hx
/-! ### the coefficients -/
def chN (n : Nat) (A : Nat → Nat → Int) : Nat → (Nat → Int) × (Nat → Nat → Int)
  | 0 => (fun i => if i = n then 1 else 0, fun _ _ => 0)
  | k + 1 => (fun i => if i = n - (k + 1) then w64 (Int.tdiv (w64 (0 - trW n (mulW n A (addD (chN n A k).2 ((chN n A k).1 (n - k)))))) ((k + 1 : Nat) : Int)) else (chN n A k).1 i, mulW n A (addD (chN n A k).2 ((chN n A k).1 (n - k))))
theorem chN_top : ∀ k, k ≤ n → (chN n A k).1 n = 1
  | 0, _ => by simp [chN]
  | k + 1, h => by
    have ih := chN_top k (by omega)
    simp only [chN]
    rw [if_neg (by omega)]
    exact ih
theorem impl_char_eq (h1 : 1 ≤ n) (hn : n ≤ 8) : impl_characteristic (mat n n A) = some (tab (n + 1) (chN n A n).1) := by
  have hx := loop_idx (body := impl_characteristic_b1 (mat n n A)) n (fun k => (tab (n + 1) (chN n A k).1, mat n n (chN n A k).2, ((k + 1 : Nat) : Int))) (tab (n + 1) (chN n A n).1) (fun k hk => by
    have e1 : w64 ((n : Int) - ((k + 1 : Nat) : Int)) = ((n - (k + 1) : Nat) : Int) := by rw [w64_id (by omega) (by omega)]; omega
    simp only [impl_characteristic_b1, mat_len, show (((k + 1 : Nat) : Int) ≤ (n : Int)) from by omega, decide_true, if_true, impl_cb5 hn _ _ hk, Option.bind_some, impl_characteristic_k3, impl_emptyGraph_eq n (show n ≤ 1048576 by omega), impl_cb2 hn, impl_characteristic_k4]
    rw [guardO_bind_pos (by omega)]
    simp only [mat_len, e1, idxO_tab (show n - (k + 1) < n + 1 by omega), Option.bind_some, impl_characteristic_k2, Int.toNat_natCast, tab_set (show n - (k + 1) < n + 1 by omega), w64_nat (show k + 1 < 9223372036854775807 by omega)]
    rfl) (by
    simp only [impl_characteristic_b1, mat_len, show ¬ (((n + 1 : Nat) : Int) ≤ (n : Int)) from by omega, decide_false, Bool.false_eq_true, if_false])
  unfold impl_characteristic
  have e2 : w64 ((n : Int) + 1) = ((n + 1 : Nat) : Int) := by rw [w64_id (by omega) (by omega)]; omega
  rw [mat_len, e2, guardO_bind_pos (by omega), Int.toNat_natCast, rep_tab, idxO_tab (show n < n + 1 by omega), Option.bind_some, impl_emptyGraph_eq n (by omega), Option.bind_some, Int.toNat_natCast, tab_set (show n < n + 1 by omega)]
  have hx' : loopO (impl_characteristic_b1 (mat n n A)) (tab (n + 1) (fun k => if k = n then 1 else 0), mat n n (fun _ _ => 0), 1) = some (tab (n + 1) (chN n A n).1) := hx
  rw [hx']
  rfl
theorem spec_id (hn : n ≤ 8) : loopO (spec_zeCoefficients_b3 (mat n n A)) ([], 0) = some (mat n n fun i j => if i = j then 1 else 0) := by
  have hx := loop_idx (body := spec_zeCoefficients_b3 (mat n n A)) n (fun i => (tab i (fun i => tab n (fun j => if i = j then (1 : Int) else 0)), (i : Int))) (mat n n fun i j => if i = j then 1 else 0) (fun i hi => by
    simp only [spec_zeCoefficients_b3, mat_len, show ((i : Int) < (n : Int)) from by omega, decide_true, if_true]
    rw [guardO_bind_pos (by omega), guardO_bind_pos (by simp [tab_len]; omega), Int.toNat_natCast, rep_tab]
    have e0 : tab i (fun i => tab n (fun j => if i = j then (1 : Int) else 0)) ++ [tab n fun _ => (0 : Int)] = tab (i + 1) (fun a => if a < i then tab n (fun j => if a = j then (1 : Int) else 0) else tab n fun _ => 0) := by
      have := tab_succ i (fun a => if a < i then tab n (fun j => if a = j then (1 : Int) else 0) else tab n fun _ => 0)
      simp only [Nat.lt_irrefl, if_false] at this
      rw [← this]
      congr 1
      exact tab_ext fun a ha => by simp [ha]
    rw [e0, idxO_tab (show i < i + 1 by omega), Option.bind_some]
    simp only [Nat.lt_irrefl, if_false, idxO_tab hi, Option.bind_some, Int.toNat_natCast, w64_nat (show i < 9223372036854775807 by omega), tab_set hi, tab_set (show i < i + 1 by omega)]
    congr 3
    refine tab_ext fun a ha => ?_
    by_cases hai : a = i
    · subst hai
      simp only [if_true]
      exact tab_ext fun b _ => by
        by_cases hb : b = a
        · subst hb; simp
        · simp [hb, Ne.symm hb]
    · simp [hai, show a < i by omega]) (by
    simp only [spec_zeCoefficients_b3, mat_len, Int.lt_irrefl, decide_false, Bool.false_eq_true, if_false]
    rfl)
  exact hx
theorem spec_char_eq (h1 : 1 ≤ n) (hn : n ≤ 8) : spec_zeCoefficients (mat n n A) = some (tab (n + 1) (chN n A n).1) := by
  have hx := loop_idx (body := spec_zeCoefficients_b1 (mat n n A)) n (fun k => (tab (n + 1) (chN n A k).1, mat n n (addD (chN n A k).2 ((chN n A k).1 (n - k))), ((k + 1 : Nat) : Int))) (tab (n + 1) (chN n A n).1) (fun k hk => by
    have e1 : w64 ((n : Int) - ((k + 1 : Nat) : Int)) = ((n - (k + 1) : Nat) : Int) := by rw [w64_id (by omega) (by omega)]; omega
    simp only [spec_zeCoefficients_b1, mat_len, show (((k + 1 : Nat) : Int) ≤ (n : Int)) from by omega, decide_true, if_true, spec_zeTimes_eq hn, spec_zeTrace_eq hn, Option.bind_some]
    rw [guardO_bind_pos (by omega), e1, idxO_tab (show n - (k + 1) < n + 1 by omega), Option.bind_some, spec_cb2 hn _ _ hk, Option.bind_some]
    simp only [spec_zeCoefficients_k3, w64_nat (show k + 1 < 9223372036854775807 by omega), chN, if_true]) (by
    simp only [spec_zeCoefficients_b1, mat_len, show ¬ (((n + 1 : Nat) : Int) ≤ (n : Int)) from by omega, decide_false, Bool.false_eq_true, if_false])
  unfold spec_zeCoefficients
  have e2 : w64 ((n : Int) + 1) = ((n + 1 : Nat) : Int) := by rw [w64_id (by omega) (by omega)]; omega
  rw [mat_len, e2, guardO_bind_pos (by omega), Int.toNat_natCast, rep_tab, idxO_tab (show n < n + 1 by omega), Option.bind_some, spec_id hn, Option.bind_some]
  unfold spec_zeCoefficients_k1
  rw [mat_len, e2, Int.toNat_natCast, Int.toNat_natCast, rep_tab, tab_set (show n < n + 1 by omega)]
  have e3 : (mat n n fun i j => if i = j then (1 : Int) else 0) = mat n n (addD (chN n A 0).2 ((chN n A 0).1 (n - 0))) := mat_ext fun a b _ _ => by
    simp only [chN, addD, Nat.sub_zero, if_true]
    by_cases h : a = b
    · subst h; simp; rfl
    · simp [h]
  rw [e3]
  have hx' : loopO (spec_zeCoefficients_b1 (mat n n A)) (tab (n + 1) (fun k => if k = n then 1 else 0), mat n n (addD (chN n A 0).2 ((chN n A 0).1 (n - 0))), 1) = some (tab (n + 1) (chN n A n).1) := hx
  rw [hx']
  rfl
end
/-! ### polynomials -/
def isPoly (c : List Int) : Bool := decide ((c.length : Int) ≤ 9) && (c.all (inB (-1000000) 1000000))
theorem both_poly {n : Nat} {c : Nat → Int} (hn : n ≤ 8) (ht : c n = 1) : spec_poIf (tab (n + 1) c) = some (if isPoly (tab (n + 1) c) = true then (tab (n + 1) c, true) else ([], false)) ∧ impl_polynomial (tab (n + 1) c) = some (if isPoly (tab (n + 1) c) = true then (tab (n + 1) c, true) else ([], false)) := by
  have e1 : w64 (((n + 1 : Nat) : Int) - 1) = (n : Int) := by rw [w64_id (by omega) (by omega)]; omega
  have hlast : idxO (tab (n + 1) c) (n : Int) = some 1 := by rw [idxO_tab (by omega), ht]
  have hlen : (tab (n + 1) c).length ≤ 4611686018427387904 := by rw [tab_len]; omega
  have l1 : loopO spec_poTrim_b1 (tab (n + 1) c) = some (tab (n + 1) c) := by
    rw [loopO_eq]
    simp only [spec_poTrim_b1, tab_len, show (((n + 1 : Nat) : Int) > 0) from by omega, decide_true, if_true, e1, hlast, Option.bind_some]
    rfl
  have l2 : loopO impl_polynomial_b1 (tab (n + 1) c) = some (tab (n + 1) c) := by
    rw [loopO_eq]
    simp only [impl_polynomial_b1, tab_len, show (((n + 1 : Nat) : Int) > 0) from by omega, decide_true, if_true, e1, hlast, Option.bind_some]
    rfl
  have h9 : ¬ (((n + 1 : Nat) : Int) > 9) := by omega
  have h9' : (((n + 1 : Nat) : Int) ≤ 9) := by omega
  have h0 : (((n + 1 : Nat) : Int) == 0) = false := by simp; omega
  constructor
  · unfold spec_poIf spec_poTrim
    rw [l1]
    simp only [Option.bind_some, spec_poTrim_k1, spec_l1Own]
    rw [guardO_bind_pos (by rw [tab_len]; omega)]
    simp only [Option.bind_some, spec_poGood, tab_len, h9, decide_false, Bool.false_eq_true, if_false, spec_l1All_eq _ _ _ hlen, h0, e1, hlast, isPoly, h9', decide_true, Bool.true_and]
    cases (tab (n + 1) c).all (inB (-1000000) 1000000) <;> rfl
  · unfold impl_polynomial
    rw [l2]
    have hc := slices_ContainsFunc_Lint_int_eq (tab (n + 1) c) (fun x0 => impl_isPolynomial_1 x0) (fun x => !inB (-1000000) 1000000 x) (fun x => by simp [impl_isPolynomial_1, impl_within_eq]) hlen
    have hcl : slices_Clone_Lint_int (tab (n + 1) c) = some (tab (n + 1) c) := by
      unfold slices_Clone_Lint_int
      rw [guardO_bind_pos (by rw [tab_len]; omega)]
    simp only [Option.bind_some, impl_polynomial_k1, impl_isPolynomial, tab_len, h9', decide_true, if_true, hc, List.any_eq_not_all_not, Bool.not_not, h0, e1, hlast, hcl, isPoly, Bool.true_and]
    cases (tab (n + 1) c).all (inB (-1000000) 1000000) <;> rfl
theorem both_CharacteristicOf (g : List (List Int)) (hg : sized g) : ∃ r ok, r.length ≤ 9 ∧ spec_CharacteristicOf g = some (r, ok) ∧ impl_CharacteristicOf g = some (r, ok) := by
  unfold spec_CharacteristicOf impl_CharacteristicOf
  rw [spec_grGood_eq g hg, impl_isGraph_eq g hg]
  cases h : isGraph g
  · exact ⟨[], false, by simp, rfl, rfl⟩
  · obtain ⟨n, G, h1, h2, rfl, _⟩ := isGraph_mat h
    obtain ⟨e1, e2⟩ := both_poly (n := n) (c := (chN n G n).1) h2 (chN_top n (Nat.le_refl n))
    simp only [Option.bind_some, Bool.not_true, Bool.false_eq_true, if_false, spec_char_eq h1 h2, impl_char_eq h1 h2, e1, e2]
    cases isPoly (tab (n + 1) (chN n G n).1)
    · exact ⟨[], false, by simp, rfl, rfl⟩
    · exact ⟨tab (n + 1) (chN n G n).1, true, by rw [tab_len]; omega, rfl, rfl⟩
theorem laws_FnExactCharacteristicOf_eq (g : List (List Int)) (hl : g.length ≤ 9223372036854775807) (hr : ∀ row ∈ g, row.length ≤ 9223372036854775807) : laws_FnExactCharacteristicOf g = some true := by
  obtain ⟨v, h1, h2⟩ := laws_szIntSS_eq g hl hr
  unfold laws_FnExactCharacteristicOf
  rw [h1, Option.bind_some]
  by_cases hv : v < 0
  · simp [hv]
  · have hs := h2 (by omega)
    obtain ⟨r, ok, e0, e1, e2⟩ := both_CharacteristicOf g hs
    obtain ⟨k', g', e3, e4, e5⟩ := laws_markIntSS_eq g hs
    have e7 : ¬ (k' < 0) := by omega
    have e8 : ¬ ((1 : Int) + (r.length : Int) < 0) := by omega
    simp only [hv, decide_false, Bool.false_eq_true, if_false, laws_toIntSS_eq g hs, e1, e2, laws_eqIntS_self r (by omega), laws_eqIntSS_self g hs, Option.bind_some, e3, e7,
      laws_markIntS_eq r 1 (by omega) (by omega), laws_heldIntS_eq r.length 1 (by omega) (by omega), beq_self_eq_true, Bool.not_true, Bool.or_self, bne_self_eq_false, e8]
end Go.PV

/-
  Plain laws: greatest divisors, fractions, floors, fractions reduced.
  Conditions: none.
-/
namespace Go.PV
theorem toNat_gcd_step (a b : Nat) (hb : b ≠ 0) : Nat.gcd b (a % b) = Nat.gcd a b := by
  rw [Nat.gcd_comm a b, Nat.gcd_rec b a, Nat.gcd_comm]
theorem impl_gcd_loop (b : Nat) : ∀ a : Nat, loopO impl_greatestDivisor_b1 ((a : Int), (b : Int)) = some ((Nat.gcd a b : Nat) : Int) := by
  induction b using Nat.strongRecOn with
  | ind b ih =>
    intro a
    rw [loopO_eq]
    by_cases hb : b = 0
    · subst hb; simp [impl_greatestDivisor_b1]
    · have hb' : ((b : Int) != 0) = true := by simp; omega
      simp only [impl_greatestDivisor_b1, hb', if_true, guardO_bind_pos (show (b : Int) ≠ 0 by omega)]
      have : Int.tmod (a : Int) (b : Int) = ((a % b : Nat) : Int) := rfl
      rw [this, ih (a % b) (Nat.mod_lt _ (by omega)) b, toNat_gcd_step a b hb]
theorem spec_gcd_loop (b : Nat) : ∀ a : Nat, loopO spec_raCommon_b1 ((a : Int), (b : Int)) = some ((Nat.gcd a b : Nat) : Int) := by
  induction b using Nat.strongRecOn with
  | ind b ih =>
    intro a
    rw [loopO_eq]
    by_cases hb : b = 0
    · subst hb; simp [spec_raCommon_b1]
    · have hb' : decide ((b : Int) > 0) = true := by simp; omega
      simp only [spec_raCommon_b1, hb', if_true, guardO_bind_pos (show (b : Int) ≠ 0 by omega)]
      have : Int.tmod (a : Int) (b : Int) = ((a % b : Nat) : Int) := rfl
      rw [this, ih (a % b) (Nat.mod_lt _ (by omega)) b, toNat_gcd_step a b hb]
theorem impl_abs_eq (a : Int) (h : -9223372036854775808 < a) (h2 : a ≤ 9223372036854775807) : impl_abs a = some (a.natAbs : Int) := by
  unfold impl_abs
  by_cases ha : a < 0
  · simp only [ha, decide_true, if_true]; rw [w64_id (by omega) (by omega)]; congr 1; omega
  · simp only [ha, decide_false, Bool.false_eq_true, if_false]; congr 1; omega
theorem spec_l1Abs_eq (a : Int) (h : -9223372036854775808 < a) (h2 : a ≤ 9223372036854775807) : spec_l1Abs a = some (a.natAbs : Int) := by
  unfold spec_l1Abs spec_l1Most
  rw [w64_id (by omega) (by omega)]
  by_cases ha : a > 0 - a
  · simp only [ha, decide_true, if_true, Option.bind_some]; congr 1; omega
  · simp only [ha, decide_false, Bool.false_eq_true, if_false, Option.bind_some]; congr 1; omega
theorem impl_greatestDivisor_eq (a b : Int) (h : -9223372036854775808 < a) (h2 : a ≤ 9223372036854775807) (h3 : -9223372036854775808 < b) (h4 : b ≤ 9223372036854775807) :
    impl_greatestDivisor a b = some ((Int.gcd a b : Nat) : Int) := by
  simp only [impl_greatestDivisor, impl_abs_eq a h h2, impl_abs_eq b h3 h4, Option.bind_some, impl_gcd_loop, impl_greatestDivisor_k1]
  rfl
theorem spec_raCommon_eq (a b : Int) (h : 0 ≤ a) (h2 : 0 ≤ b) : spec_raCommon a b = some ((Int.gcd a b : Nat) : Int) := by
  obtain ⟨m, rfl⟩ := Int.eq_ofNat_of_zero_le h
  obtain ⟨n, rfl⟩ := Int.eq_ofNat_of_zero_le h2
  simp only [spec_raCommon]
  rw [spec_gcd_loop]
  rfl

/-- A fraction that is valid. -/
def isRat (r : Int × Int) : Bool := inB 1 1000000000 r.2 && (inB (-1000000000) 1000000000 r.1 && (Int.gcd r.1 r.2 : Int) == 1)
theorem isRat_iff {r : Int × Int} : isRat r = true ↔ 1 ≤ r.2 ∧ r.2 ≤ 1000000000 ∧ -1000000000 ≤ r.1 ∧ r.1 ≤ 1000000000 ∧ Int.gcd r.1 r.2 = 1 := by
  simp only [isRat, Bool.and_eq_true, inB_iff, beq_iff_eq]
  constructor
  · rintro ⟨⟨h1, h2⟩, ⟨h3, h4⟩, h5⟩; exact ⟨h1, h2, h3, h4, by omega⟩
  · rintro ⟨h1, h2, h3, h4, h5⟩; exact ⟨⟨h1, h2⟩, ⟨h3, h4⟩, by omega⟩
theorem impl_isRat_eq (r : Int × Int) : impl_isRat r = some (isRat r) := by
  unfold impl_isRat isRat
  simp only [impl_within_eq, Option.bind_some]
  cases h1 : inB 1 1000000000 r.2
  · rfl
  · cases h2 : inB (-1000000000) 1000000000 r.1
    · rfl
    · have h1' := inB_iff.1 h1
      have h2' := inB_iff.1 h2
      simp only [if_true, impl_greatestDivisor_eq r.1 r.2 (by omega) (by omega) (by omega) (by omega), Option.bind_some, Bool.true_and]
theorem spec_raGood_eq (r : Int × Int) : spec_raGood r = some (isRat r) := by
  unfold spec_raGood isRat
  simp only [spec_l1In_eq, Option.bind_some]
  cases h1 : inB 1 1000000000 r.2
  · rfl
  · cases h2 : inB (-1000000000) 1000000000 r.1
    · rfl
    · have h1' := inB_iff.1 h1
      have h2' := inB_iff.1 h2
      simp only [if_true, spec_l1Abs_eq r.1 (by omega) (by omega), spec_raCommon_eq _ r.2 (Int.natCast_nonneg _) (by omega), Option.bind_some, Bool.true_and]
      rfl
theorem impl_areRats_eq (l : List (Int × Int)) (hl : l.length ≤ 4611686018427387904) : impl_areRats l = some (l.all isRat) := by
  have h := loop_any (xs := l) (body := impl_areRats_b1 l) (fun x => !isRat x) (fun i => (i : Int)) (.inl false) (.inr ()) (fun i x hx => by
    have hi := getElem?_lt hx
    simp only [impl_areRats_b1, idxO_nat, hx, impl_isRat_eq, Option.bind_some, w64_nat (show i < 9223372036854775807 by omega), show ((i : Int) < (l.length : Int)) from by omega, decide_true, if_true]
    cases isRat x <;> rfl) (by simp [impl_areRats_b1])
  unfold impl_areRats
  rw [show (0 : Int) = ((0 : Nat) : Int) from rfl, h, List.any_eq_not_all_not]
  simp only [Bool.not_not]
  cases l.all isRat <;> rfl
/-- In lowest terms, if it is valid. -/
def lowest (n d : Int) : (Int × Int) × Bool :=
  let g := if d < 0 then -(Int.gcd n d : Int) else Int.gcd n d
  if isRat (Int.tdiv n g, Int.tdiv d g) then ((Int.tdiv n g, Int.tdiv d g), true) else ((0, 0), false)
theorem tdiv_w64 (n g : Int) (h : -9223372036854775808 < n) (h2 : n ≤ 9223372036854775807) (hg : g ≠ 0) : w64 (Int.tdiv n g) = Int.tdiv n g := by
  have h1 : (Int.tdiv n g).natAbs ≤ n.natAbs := by rw [Int.natAbs_tdiv]; exact Nat.div_le_self _ _
  exact w64_id (by omega) (by omega)
theorem impl_lowest_eq (n d : Int) (hd : d ≠ 0) (h : -9223372036854775808 < n) (h2 : n ≤ 9223372036854775807) (h3 : -9223372036854775808 < d) (h4 : d ≤ 9223372036854775807) : impl_lowest n d = some (lowest n d) := by
  have hg0 : Int.gcd n d ≠ 0 := by rw [Ne, Int.gcd_eq_zero_iff]; omega
  have hgl : (Int.gcd n d : Int) ≤ 9223372036854775807 := by
    have : Int.gcd n d ≤ d.natAbs := Nat.gcd_le_right _ (by omega)
    omega
  have key : ∀ g : Int, g ≠ 0 → impl_lowest_k1 n d g = some (if isRat (Int.tdiv n g, Int.tdiv d g) then ((Int.tdiv n g, Int.tdiv d g), true) else ((0, 0), false)) := fun g hg => by
    simp only [impl_lowest_k1, guardO_bind_pos hg, tdiv_w64 n g h h2 hg, tdiv_w64 d g h3 h4 hg, impl_isRat_eq, Option.bind_some]
    cases isRat (Int.tdiv n g, Int.tdiv d g) <;> rfl
  unfold impl_lowest lowest
  simp only [impl_greatestDivisor_eq n d h h2 h3 h4, Option.bind_some]
  by_cases hneg : d < 0
  · simp only [hneg, decide_true, if_true]
    rw [show (0 : Int) - (Int.gcd n d : Int) = -(Int.gcd n d : Int) by omega, w64_id (by omega) (by omega), key _ (by omega)]
  · simp only [hneg, decide_false, Bool.false_eq_true, if_false]
    rw [key _ (by omega)]
theorem mul_le_9 {a b : Int} (ha : -1000000000 ≤ a) (ha2 : a ≤ 1000000000) (hb : -1000000000 ≤ b) (hb2 : b ≤ 1000000000) : -1000000000000000000 ≤ a * b ∧ a * b ≤ 1000000000000000000 := by
  have h1 : (a * b).natAbs ≤ 1000000000 * 1000000000 := by
    rw [Int.natAbs_mul]; exact Nat.mul_le_mul (by omega) (by omega)
  omega
theorem impl_AddRats_eq (a b : Int × Int) : impl_AddRats a b = some (if isRat a && isRat b then lowest (a.1 * b.2 + b.1 * a.2) (a.2 * b.2) else ((0, 0), false)) := by
  unfold impl_AddRats
  rw [impl_areRats_eq _ (by simp)]
  simp only [Option.bind_some, List.all_cons, List.all_nil, Bool.and_true]
  cases ha : isRat a
  · rfl
  · cases hb : isRat b
    · rfl
    · obtain ⟨a1, a2, a3, a4, _⟩ := isRat_iff.1 ha
      obtain ⟨b1, b2, b3, b4, _⟩ := isRat_iff.1 hb
      have m1 := mul_le_9 a3 a4 (show -1000000000 ≤ b.2 by omega) b2
      have m2 := mul_le_9 b3 b4 (show -1000000000 ≤ a.2 by omega) a2
      have m3 := mul_le_9 (show -1000000000 ≤ a.2 by omega) a2 (show -1000000000 ≤ b.2 by omega) b2
      have hne : a.2 * b.2 ≠ 0 := Int.mul_ne_zero (by omega) (by omega)
      simp only [Bool.and_self, Bool.not_true, Bool.false_eq_true, if_false, if_true]
      rw [w64_id (n := a.1 * b.2) (by omega) (by omega), w64_id (n := b.1 * a.2) (by omega) (by omega), w64_id (n := a.1 * b.2 + b.1 * a.2) (by omega) (by omega), w64_id (n := a.2 * b.2) (by omega) (by omega), impl_lowest_eq _ _ hne (by omega) (by omega) (by omega) (by omega)]
      rfl
/-! ### reduced to the unit interval -/
def near (r : Int × Int) : Bool := isRat r && inB (-1000 * r.2) (1000 * r.2) r.1
theorem spec_liNear_eq (r : Int × Int) : spec_liNear r = some (near r) := by
  unfold spec_liNear near
  simp only [spec_raGood_eq, Option.bind_some, spec_l1In_eq]
  cases h : isRat r
  · rfl
  · obtain ⟨h1, h2, h3, h4, _⟩ := isRat_iff.1 h
    simp only [if_true, Option.bind_some, Bool.true_and]
    rw [w64_id (by omega) (by omega), w64_id (by omega) (by omega)]
def cmp (a b : Int × Int) : Int := if a.1 * b.2 < b.1 * a.2 then -1 else if a.1 * b.2 > b.1 * a.2 then 1 else 0
/-- Small enough that nothing wraps. -/
def tame (r : Int × Int) : Prop := -1000000000 ≤ r.1 ∧ r.1 ≤ 1000000000 ∧ -1000000000 ≤ r.2 ∧ r.2 ≤ 1000000000
theorem tame_of {r : Int × Int} (h : isRat r = true) : tame r := by
  obtain ⟨h1, h2, h3, h4, _⟩ := isRat_iff.1 h
  exact ⟨h3, h4, by omega, h2⟩
theorem impl_compare_eq (a b : Int × Int) (ha : tame a) (hb : tame b) : impl_compare a b = some (cmp a b) := by
  obtain ⟨a1, a2, a3, a4⟩ := ha
  obtain ⟨b1, b2, b3, b4⟩ := hb
  have m1 := mul_le_9 a1 a2 b3 b4
  have m2 := mul_le_9 b1 b2 a3 a4
  unfold impl_compare cmp
  rw [w64_id (n := a.1 * b.2) (by omega) (by omega), w64_id (n := b.1 * a.2) (by omega) (by omega)]
  by_cases h1 : a.1 * b.2 < b.1 * a.2
  · simp [h1]
  · by_cases h2 : a.1 * b.2 > b.1 * a.2
    · simp [h1, h2]
    · simp [h1, h2]
def less (a b : Int × Int) : Bool := decide (a.1 * b.2 < b.1 * a.2)
theorem impl_less_eq (a b : Int × Int) (ha : tame a) (hb : tame b) : impl_less a b = some (less a b) := by
  unfold impl_less less
  rw [impl_compare_eq a b ha hb]
  unfold cmp
  by_cases h1 : a.1 * b.2 < b.1 * a.2
  · simp [h1]
  · by_cases h2 : a.1 * b.2 > b.1 * a.2
    · simp [h1, h2]
    · simp [h1, h2]
theorem impl_isFar_eq (r : Int × Int) : impl_isFar r = some (near r) := by
  unfold impl_isFar near
  simp only [impl_isRat_eq, Option.bind_some, impl_whole]
  cases h : isRat r
  · rfl
  · have ht := tame_of h
    simp only [if_true, impl_less_eq r (-1000, 1) ht ⟨by decide, by decide, by decide, by decide⟩, impl_less_eq (1000, 1) r ⟨by decide, by decide, by decide, by decide⟩ ht, Option.bind_some, less, Bool.true_and, inB]
    simp only [Int.mul_one]
    by_cases h1 : r.1 < -1000 * r.2
    · have : ¬ (-1000 * r.2 ≤ r.1) := by omega
      simp [h1, this]
    · have h3 : -1000 * r.2 ≤ r.1 := by omega
      by_cases h2 : 1000 * r.2 < r.1
      · have : ¬ (r.1 ≤ 1000 * r.2) := by omega
        simp [h1, h2, h3, this]
      · have h4 : r.1 ≤ 1000 * r.2 := by omega
        simp [h1, h2, h3, h4]
/-- The greatest integer that is not greater than n / d, for d greater than 0. -/
def floorDiv (n d : Int) : Int := if Int.tmod n d < 0 then Int.tdiv n d - 1 else Int.tdiv n d
theorem floorDiv_spec (n d : Int) (hd : 0 < d) : floorDiv n d * d ≤ n ∧ n < floorDiv n d * d + d := by
  have h1 := Int.tmod_add_mul_tdiv n d
  have h2 := Int.tmod_lt_of_pos n hd
  have h3 : -d < Int.tmod n d := by
    have := Int.lt_tmod_of_pos n hd
    omega
  unfold floorDiv
  rw [Int.mul_comm] at h1
  split
  · rw [Int.sub_mul]; omega
  · omega
theorem tdiv_bound (n d : Int) : (Int.tdiv n d).natAbs ≤ n.natAbs := by rw [Int.natAbs_tdiv]; exact Nat.div_le_self _ _
theorem impl_floorDivide_eq (n d : Int) (hd : d ≠ 0) (h : -9223372036854775807 < n) (h2 : n ≤ 9223372036854775807) : impl_floorDivide n d = some (floorDiv n d) := by
  have h1 := tdiv_bound n d
  unfold impl_floorDivide floorDiv
  rw [guardO_bind_pos hd, w64_id (n := Int.tdiv n d) (by omega) (by omega), w64_id (n := Int.tdiv n d - 1) (by omega) (by omega)]
  by_cases h3 : Int.tmod n d < 0 <;> simp [h3]
theorem spec_raDown_eq (n d : Int) (hd : d ≠ 0) (h : -9223372036854775807 < n) (h2 : n ≤ 9223372036854775807) : spec_raDown n d = some (floorDiv n d) := by
  have h1 := tdiv_bound n d
  unfold spec_raDown floorDiv
  have : (d == 0) = false := by simpa using hd
  simp only [this, Bool.false_eq_true, if_false]
  rw [guardO_bind_pos hd, w64_id (n := Int.tdiv n d) (by omega) (by omega), w64_id (n := Int.tdiv n d - 1) (by omega) (by omega)]
  by_cases h3 : Int.tmod n d < 0 <;> simp [h3]
theorem lowest_of_isRat {r : Int × Int} (h : isRat r = true) : lowest r.1 r.2 = (r, true) := by
  obtain ⟨h1, h2, h3, h4, h5⟩ := isRat_iff.1 h
  unfold lowest
  have : ¬ r.2 < 0 := by omega
  simp only [this, if_false, h5]
  simp [h]
def reduceRat (r : Int × Int) : (Int × Int) × Bool := if near r then ((r.1 - floorDiv r.1 r.2 * r.2, r.2), true) else ((0, 0), false)
theorem spec_ReduceRat_eq (r : Int × Int) : spec_ReduceRat r = some (reduceRat r) := by
  unfold spec_ReduceRat reduceRat
  rw [spec_liNear_eq, Option.bind_some]
  cases h : near r
  · rfl
  · simp only [near, Bool.and_eq_true, inB_iff] at h
    obtain ⟨hr, h6, h7⟩ := h
    obtain ⟨h1, h2, h3, h4, h5⟩ := isRat_iff.1 hr
    have hf := floorDiv_spec r.1 r.2 (by omega)
    have hb := tdiv_bound r.1 r.2
    have hfb : -1000000001 ≤ floorDiv r.1 r.2 ∧ floorDiv r.1 r.2 ≤ 1000000000 := by unfold floorDiv; split <;> omega
    simp only [Bool.not_true, Bool.false_eq_true, if_false, if_true, spec_raFloor, spec_raDown_eq r.1 r.2 (by omega) (by omega) (by omega), Option.bind_some, spec_liPlus]
    rw [w64_id (n := 0 - floorDiv r.1 r.2) (by omega) (by omega)]
    have e : (0 - floorDiv r.1 r.2) * r.2 = -(floorDiv r.1 r.2 * r.2) := by rw [Int.sub_mul]; omega
    rw [e, w64_id (n := -(floorDiv r.1 r.2 * r.2)) (by omega) (by omega), w64_id (by omega) (by omega)]
    congr 3
theorem impl_ReduceRat_eq (r : Int × Int) : impl_ReduceRat r = some (reduceRat r) := by
  unfold impl_ReduceRat reduceRat
  rw [impl_isFar_eq, Option.bind_some]
  cases h : near r
  · rfl
  · simp only [near, Bool.and_eq_true, inB_iff] at h
    obtain ⟨hr, h6, h7⟩ := h
    obtain ⟨h1, h2, h3, h4, h5⟩ := isRat_iff.1 hr
    have hf := floorDiv_spec r.1 r.2 (by omega)
    have hfb : -1000 ≤ floorDiv r.1 r.2 ∧ floorDiv r.1 r.2 ≤ 1000 := by
      constructor
      · by_cases h : floorDiv r.1 r.2 < -1000
        · have : floorDiv r.1 r.2 * r.2 + r.2 ≤ -1000 * r.2 := by
            have : (floorDiv r.1 r.2 + 1) * r.2 ≤ -1000 * r.2 := Int.mul_le_mul_of_nonneg_right (by omega) (by omega)
            rw [Int.add_mul] at this; omega
          omega
        · omega
      · by_cases h : 1000 < floorDiv r.1 r.2
        · have : 1001 * r.2 ≤ floorDiv r.1 r.2 * r.2 := Int.mul_le_mul_of_nonneg_right (by omega) (by omega)
          omega
        · omega
    simp only [Bool.not_true, Bool.false_eq_true, if_false, if_true, impl_floor, impl_floorDivide_eq r.1 r.2 (by omega) (by omega) (by omega), Option.bind_some, impl_whole, impl_SubtractRats, impl_negated, impl_AddRats_eq]
    rw [w64_id (n := 0 - floorDiv r.1 r.2) (by omega) (by omega)]
    have hone : isRat (0 - floorDiv r.1 r.2, 1) = true := isRat_iff.2 ⟨by simp, by simp, by simp only []; omega, by simp only []; omega, by simp⟩
    simp only [hr, hone, Bool.and_self, if_true, Int.mul_one]
    have e : r.1 + (0 - floorDiv r.1 r.2) * r.2 = r.1 - floorDiv r.1 r.2 * r.2 := by rw [Int.sub_mul]; omega
    rw [e]
    have hres : isRat (r.1 - floorDiv r.1 r.2 * r.2, r.2) = true := isRat_iff.2 ⟨h1, h2, by simp only []; omega, by simp only []; omega, by
      simp only []
      rw [show r.1 - floorDiv r.1 r.2 * r.2 = r.1 + (-(floorDiv r.1 r.2)) * r.2 by rw [Int.neg_mul]; omega, Int.gcd_add_mul_right_left]
      exact h5⟩
    rw [lowest_of_isRat hres]
theorem laws_eqRat_self (r : Int × Int) : laws_eqRat r r = some true := by simp [laws_eqRat]
theorem laws_FnExactReduceRat_eq (r : Int × Int) : laws_FnExactReduceRat r = some true := by
  simp [laws_FnExactReduceRat, laws_toRat, spec_ReduceRat_eq, impl_ReduceRat_eq, laws_eqRat_self]
end Go.PV

set_option linter.all false
namespace Go.PV
abbrev Pt := (Int × Int) × (Int × Int)
def zP : Pt := ((0, 0), (0, 0))
theorem slices_IndexFunc_Limpl_Point_impl_Point_eq (xs : List Pt) (f : Pt → Option Bool) (p : Pt → Bool) (hf : ∀ x, f x = some (p x)) (hl : xs.length ≤ 4611686018427387904) :
    slices_IndexFunc_Limpl_Point_impl_Point xs f = some (match xs.findIdx? p with | some i => (i : Int) | none => -1) := by
  have h := loop_first (xs := xs) (body := slices_IndexFunc_Limpl_Point_impl_Point_b1 xs f) p (fun i => (i : Int)) (fun i => .inl (i : Int)) (.inr ()) (fun i x hx => by
    have hi := getElem?_lt hx
    simp only [slices_IndexFunc_Limpl_Point_impl_Point_b1, idxO_nat, hx, hf, Option.bind_some, w64_nat (show i < 9223372036854775807 by omega), show ((i : Int) < (xs.length : Int)) from by omega, decide_true, if_true]
    cases p x <;> rfl) (by simp [slices_IndexFunc_Limpl_Point_impl_Point_b1])
  unfold slices_IndexFunc_Limpl_Point_impl_Point
  rw [show (0 : Int) = ((0 : Nat) : Int) from rfl, h]
  cases xs.findIdx? p <;> rfl
theorem slices_ContainsFunc_Limpl_Point_impl_Point_eq (xs : List Pt) (f : Pt → Option Bool) (p : Pt → Bool) (hf : ∀ x, f x = some (p x)) (hl : xs.length ≤ 4611686018427387904) : slices_ContainsFunc_Limpl_Point_impl_Point xs f = some (xs.any p) := by
  simp only [slices_ContainsFunc_Limpl_Point_impl_Point, slices_IndexFunc_Limpl_Point_impl_Point_eq xs f p hf hl, Option.bind_some]
  cases h : xs.findIdx? p with
  | none =>
    have hn := List.findIdx?_eq_none_iff.1 h
    have : xs.any p = false := by simpa using hn
    simp [this]
  | some m =>
    obtain ⟨hm, hp, _⟩ := List.findIdx?_eq_some_iff_getElem.1 h
    have : xs.any p = true := List.any_eq_true.2 ⟨xs[m], List.getElem_mem hm, hp⟩
    simp [this]

theorem laws_toPoint_eq (p : Pt) : laws_toPoint p = some p := rfl
theorem laws_toPointS_eq (xs : List Pt) (hl : xs.length ≤ 1099511627776) : laws_toPointS xs = some xs := by
  have h := loop_idx (body := laws_toPointS_b1 xs) xs.length (fun i => (xs.take i ++ (List.replicate xs.length zP).drop i, (i : Int))) xs (fun i hi => by
    have hlen : i < (xs.take i ++ (List.replicate xs.length zP).drop i).length := by simp; omega
    simp only [laws_toPointS_b1, idxO_lt hi, idxO_lt hlen, laws_toPoint_eq, Option.bind_some, w64_nat (show i < 9223372036854775807 by omega), show ((i : Int) < (xs.length : Int)) from by omega, decide_true, if_true, Int.toNat_natCast]
    rw [set_at _ _ _ _ (List.getElem?_eq_getElem hi) (by simpa using hi)]) (by simp [laws_toPointS_b1])
  unfold laws_toPointS
  rw [guardO_bind_pos (by omega)]
  simp only [List.take_zero, List.nil_append, List.drop_zero] at h
  rw [Int.toNat_natCast]
  have h' : loopO (laws_toPointS_b1 xs) (List.replicate xs.length ((0, 0), (0, 0)), 0) = some xs := h
  rw [h']
  rfl
theorem laws_eqPoint_self (p : Pt) : laws_eqPoint p p = some true := by simp [laws_eqPoint, laws_eqRat_self]
theorem laws_eqPointS_self (xs : List Pt) (hl : xs.length ≤ 4611686018427387904) : laws_eqPointS xs xs = some true := by
  have h := loop_idx (body := laws_eqPointS_b1 xs xs) xs.length (fun i => (i : Int)) (.inr ()) (fun i hi => by
    simp only [laws_eqPointS_b1, idxO_lt hi, laws_eqPoint_self, Option.bind_some, w64_nat (show i < 9223372036854775807 by omega), show ((i : Int) < (xs.length : Int)) from by omega, decide_true, if_true]
    simp) (by simp [laws_eqPointS_b1])
  unfold laws_eqPointS
  rw [show (0 : Int) = ((0 : Nat) : Int) from rfl, h]
  simp [laws_eqPointS_k1]
theorem laws_szPointS_eq (xs : List Pt) (m : Nat) (hm : m ≤ 4611686018427387904) (hl : xs.length ≤ 9223372036854775807) : laws_szPointS xs (m : Int) = some (if m < xs.length then -1 else (m : Int) - xs.length) := by
  unfold laws_szPointS
  rw [w64_id (by omega) (by omega)]
  by_cases h : m < xs.length
  · have : (m : Int) - xs.length < 0 := by omega
    simp [this, h]
  · have : ¬ (m : Int) - xs.length < 0 := by omega
    simp [this, h]

/-! ### cmp -/
theorem spec_raCmp_eq (a b : Int × Int) (ha : tame a) (hb : tame b) : spec_raCmp a b = some (cmp a b) := by
  obtain ⟨a1, a2, a3, a4⟩ := ha
  obtain ⟨b1, b2, b3, b4⟩ := hb
  have m1 := mul_le_9 a1 a2 b3 b4
  have m2 := mul_le_9 b1 b2 a3 a4
  unfold spec_raCmp spec_l1Sign cmp
  rw [w64_id (n := a.1 * b.2) (by omega) (by omega), w64_id (n := b.1 * a.2) (by omega) (by omega), w64_id (n := a.1 * b.2 - b.1 * a.2) (by omega) (by omega)]
  by_cases h1 : a.1 * b.2 < b.1 * a.2
  · have : ¬ (a.1 * b.2 - b.1 * a.2 > 0) := by omega
    have h3 : a.1 * b.2 - b.1 * a.2 < 0 := by omega
    simp [h1, h3]; omega
  · by_cases h2 : a.1 * b.2 > b.1 * a.2
    · have : a.1 * b.2 - b.1 * a.2 > 0 := by omega
      simp [h1, h2, this]
    · have h3 : ¬ (a.1 * b.2 - b.1 * a.2 > 0) := by omega
      have h4 : ¬ (a.1 * b.2 - b.1 * a.2 < 0) := by omega
      simp [h1, h2, h3, h4]
theorem cmp_ge (a b : Int × Int) : decide (cmp a b ≥ 0) = !less a b := by
  unfold cmp less
  by_cases h1 : a.1 * b.2 < b.1 * a.2
  · simp [h1]
  · by_cases h2 : a.1 * b.2 > b.1 * a.2 <;> simp [h1, h2]
theorem cmp_gt (a b : Int × Int) : decide (cmp a b > 0) = less b a := by
  unfold cmp less
  by_cases h1 : a.1 * b.2 < b.1 * a.2
  · have : ¬ b.1 * a.2 < a.1 * b.2 := by omega
    simp [h1, this]
  · by_cases h2 : a.1 * b.2 > b.1 * a.2
    · simp [h1, h2]
    · have : ¬ b.1 * a.2 < a.1 * b.2 := by omega
      simp [h1, h2]
theorem cmp_zero (a b : Int × Int) : (cmp a b == 0) = (a.1 * b.2 == b.1 * a.2) := by
  unfold cmp
  by_cases h1 : a.1 * b.2 < b.1 * a.2
  · have : ¬ a.1 * b.2 = b.1 * a.2 := by omega
    simp [h1, this]
  · by_cases h2 : a.1 * b.2 > b.1 * a.2
    · have : ¬ a.1 * b.2 = b.1 * a.2 := by omega
      simp [h1, h2, this]
    · have : a.1 * b.2 = b.1 * a.2 := by omega
      simp [this]

/-! ### coordinates -/
def isUnit (r : Int × Int) : Bool := isRat r && inB 0 r.2 r.1
def coord (r : Int × Int) : Bool := isUnit r && decide (r.2 ≤ 100)
theorem spec_raUnit_eq (r : Int × Int) : spec_raUnit r = some (isUnit r) := by
  unfold spec_raUnit isUnit
  simp only [spec_raGood_eq, Option.bind_some, spec_l1In_eq]
  cases isRat r <;> simp
theorem impl_isUnit_eq (r : Int × Int) : impl_isUnit r = some (isUnit r) := by
  simp [impl_isUnit, impl_isRat_eq, isUnit, inB]
theorem spec_imCoord_eq (r : Int × Int) : spec_imCoord r = some (coord r) := by simp [spec_imCoord, spec_raUnit_eq, coord]
theorem impl_isCoord_eq (r : Int × Int) : impl_isCoord r = some (coord r) := by simp [impl_isCoord, impl_isUnit_eq, coord]
theorem coord_rat {r : Int × Int} (h : coord r = true) : isRat r = true := by
  simp only [coord, isUnit, Bool.and_eq_true] at h
  exact h.1.1
/-- A point of a lift. -/
def goodPt (p : Pt) : Bool := coord p.1 && (isRat p.2 && (decide (p.2.2 ≤ 100) && inB (-5 * p.2.2) (5 * p.2.2) p.2.1))
theorem goodPt_tame {p : Pt} (h : goodPt p = true) : isRat p.1 = true ∧ isRat p.2 = true := by
  simp only [goodPt, Bool.and_eq_true] at h
  exact ⟨coord_rat h.1, h.2.1⟩
theorem impl_isLift_1_eq (p : Pt) : impl_isLift_1 p = some (!goodPt p) := by
  unfold impl_isLift_1 goodPt
  simp only [impl_isCoord_eq, impl_isRat_eq, impl_whole, Option.bind_some]
  cases h1 : coord p.1
  · simp
  · cases h : isRat p.2
    · simp
    · have ht := tame_of h
      obtain ⟨h2, h3, h4, h5, _⟩ := isRat_iff.1 h
      by_cases h6 : p.2.2 > 100
      · have : ¬ p.2.2 ≤ 100 := by omega
        simp [h6, this]
      · have h7 : p.2.2 ≤ 100 := by omega
        simp only [Bool.not_true, Bool.false_eq_true, if_false, h6, h7, decide_false, decide_true, impl_less_eq p.2 (-5, 1) ht ⟨by decide, by decide, by decide, by decide⟩, impl_less_eq (5, 1) p.2 ⟨by decide, by decide, by decide, by decide⟩ ht, Option.bind_some, less, Bool.true_and, inB]
        simp only [Int.mul_one]
        by_cases h8 : p.2.1 < -5 * p.2.2
        · have : ¬ (-5 * p.2.2 ≤ p.2.1) := by omega
          simp [h8, this]
        · have h9 : -5 * p.2.2 ≤ p.2.1 := by omega
          by_cases h10 : 5 * p.2.2 < p.2.1
          · have : ¬ (p.2.1 ≤ 5 * p.2.2) := by omega
            simp [h8, h9, h10, this]
          · have h11 : p.2.1 ≤ 5 * p.2.2 := by omega
            simp [h8, h9, h10, h11]
/-- From a point to the next. -/
def stepPt (a b : Pt) : Bool := less a.1 b.1 && !less b.2 a.2
def steps (xs : List Pt) (n : Nat) : Prop := ∀ i a b, 0 < i → i < n → xs[i - 1]? = some a → xs[i]? = some b → stepPt a b = true
theorem steps_succ {xs : List Pt} {i : Nat} {a b : Pt} (h : steps xs i) (ha : xs[i - 1]? = some a) (hb : xs[i]? = some b) (hs : stepPt a b = true) : steps xs (i + 1) := by
  intro j c d h1 h2 h3 h4
  by_cases hj : j = i
  · subst hj; rw [ha] at h3; rw [hb] at h4; cases h3; cases h4; exact hs
  · exact h j c d h1 (by omega) h3 h4
/-- The ends. -/
def ends (xs : List Pt) : Bool := match xs[0]?, xs[xs.length - 1]? with
  | some a, some b => (a.1 == (0, 1)) && ((b.1 == (1, 1)) && (b.2 == (a.2.1 + a.2.2, a.2.2)))
  | _, _ => false
open Classical in
/-- The maps of the circle's lifts. -/
noncomputable def isLift (xs : List Pt) : Bool := inB 2 12 xs.length && (decide (xs.all goodPt = true ∧ steps xs xs.length) && ends xs)
end Go.PV

set_option linter.all false
namespace Go.PV
theorem lowest_isRat {n d : Int} (h1 : 0 ≤ n) (h2 : n ≤ 1000000000) (h3 : 1 ≤ d) (h4 : d ≤ 1000000000) : isRat (lowest n d).1 = true := by
  have hg : 0 < Int.gcd n d := Int.gcd_pos_of_ne_zero_right _ (by omega)
  have key : isRat (Int.tdiv n (Int.gcd n d : Int), Int.tdiv d (Int.gcd n d : Int)) = true := by
    obtain ⟨a, rfl⟩ := Int.eq_ofNat_of_zero_le h1
    obtain ⟨b, rfl⟩ := Int.eq_ofNat_of_zero_le (show 0 ≤ d by omega)
    have e : Int.gcd (a : Int) (b : Int) = Nat.gcd a b := rfl
    rw [e] at hg ⊢
    have e1 : Int.tdiv (a : Int) ((Nat.gcd a b : Nat) : Int) = ((a / Nat.gcd a b : Nat) : Int) := by rw [Int.tdiv_eq_ediv_of_nonneg (by omega)]; rfl
    have e2 : Int.tdiv (b : Int) ((Nat.gcd a b : Nat) : Int) = ((b / Nat.gcd a b : Nat) : Int) := by rw [Int.tdiv_eq_ediv_of_nonneg (by omega)]; rfl
    rw [e1, e2, isRat_iff]
    have l1 : a / Nat.gcd a b ≤ a := Nat.div_le_self _ _
    have l2 : b / Nat.gcd a b ≤ b := Nat.div_le_self _ _
    have l3 : 0 < b / Nat.gcd a b := Nat.div_pos (Nat.le_of_dvd (by omega) (Nat.gcd_dvd_right a b)) hg
    have l4 : ((a / Nat.gcd a b : Nat) : Int) ≤ 1000000000 := by omega
    have l5 : ((b / Nat.gcd a b : Nat) : Int) ≤ 1000000000 := by omega
    have l6 : 1 ≤ ((b / Nat.gcd a b : Nat) : Int) := by omega
    have l7 : 0 ≤ ((a / Nat.gcd a b : Nat) : Int) := Int.natCast_nonneg _
    generalize hA : ((a / Nat.gcd a b : Nat) : Int) = A at l4 l7 ⊢
    generalize hB : ((b / Nat.gcd a b : Nat) : Int) = B at l5 l6 ⊢
    refine ⟨l6, l5, by show -1000000000 ≤ A; omega, l4, ?_⟩
    rw [← hA, ← hB]
    exact Nat.coprime_div_gcd_div_gcd hg
  have hdn : ¬ d < 0 := by omega
  unfold lowest
  simp only [if_neg hdn]
  rw [if_pos key]
  exact key
theorem spec_raMake_eq (n d : Int) (h1 : 0 ≤ n) (h2 : n ≤ 1000000000) (h3 : 1 ≤ d) (h4 : d ≤ 1000000000) : spec_raMake n d = some (lowest n d) := by
  have hg : 0 < Int.gcd n d := Int.gcd_pos_of_ne_zero_right _ (by omega)
  have hd0 : (d == 0) = false := by simpa using (show d ≠ 0 by omega)
  have hdn : ¬ d < 0 := by omega
  unfold spec_raMake spec_raMake_k1 lowest
  simp only [hd0, Bool.false_eq_true, if_false, spec_l1Abs_eq n (by omega) (by omega), spec_l1Abs_eq d (by omega) (by omega), Option.bind_some, spec_raCommon_eq (n.natAbs : Int) (d.natAbs : Int) (by omega) (by omega), hdn, decide_false]
  have e : Int.gcd (n.natAbs : Int) (d.natAbs : Int) = Int.gcd n d := rfl
  rw [e, guardO_bind_pos (by omega), tdiv_w64 _ _ (by omega) (by omega) (by omega), tdiv_w64 _ _ (by omega) (by omega) (by omega), spec_raGood_eq, Option.bind_some]
  cases isRat (Int.tdiv n (Int.gcd n d : Int), Int.tdiv d (Int.gcd n d : Int)) <;> simp
theorem cmp_same {a b : Int × Int} (ha : isRat a = true) (hb : isRat b = true) (h : a.1 * b.2 = b.1 * a.2) : a = b := by
  obtain ⟨a1, a2, a3, a4, a5⟩ := isRat_iff.1 ha
  obtain ⟨b1, b2, b3, b4, b5⟩ := isRat_iff.1 hb
  obtain ⟨p, q⟩ := a
  obtain ⟨r, s⟩ := b
  simp only at *
  have hn : p.natAbs * s.natAbs = r.natAbs * q.natAbs := by rw [← Int.natAbs_mul, ← Int.natAbs_mul, h]
  have c1 : Nat.Coprime p.natAbs q.natAbs := a5
  have c2 : Nat.Coprime r.natAbs s.natAbs := b5
  have d1 : s.natAbs ∣ q.natAbs := by
    have : s.natAbs ∣ r.natAbs * q.natAbs := ⟨p.natAbs, by rw [← hn]; exact Nat.mul_comm _ _⟩
    exact c2.symm.dvd_of_dvd_mul_left this
  have d2 : q.natAbs ∣ s.natAbs := by
    have : q.natAbs ∣ p.natAbs * s.natAbs := ⟨r.natAbs, by rw [hn]; exact Nat.mul_comm _ _⟩
    exact c1.symm.dvd_of_dvd_mul_left this
  have hqs : q.natAbs = s.natAbs := Nat.dvd_antisymm d2 d1
  have hq : q = s := by omega
  subst hq
  have : p = r := Int.eq_of_mul_eq_mul_right (by omega) h
  rw [this]

/-! ### products -/
def dotN (G : Nat → Int) (v : Nat → Int) (n : Nat) : Int := foldN n (fun s j => s + G j * v j) 0
theorem dotN_bound {G v : Nat → Int} {n : Nat} (k : Nat) (hk : k ≤ n) (hG : ∀ j, j < n → 0 ≤ G j ∧ G j ≤ 9) (hv : ∀ j, j < n → 1 ≤ v j ∧ v j ≤ 1000000) : 0 ≤ dotN G v k ∧ dotN G v k ≤ 9000000 * k := by
  induction k with
  | zero => simp [dotN, foldN_zero]
  | succ k ih =>
    have := ih (by omega)
    have e : dotN G v (k + 1) = dotN G v k + G k * v k := by simp [dotN, foldN_succ]
    obtain ⟨g1, g2⟩ := hG k (by omega)
    obtain ⟨v1, v2⟩ := hv k (by omega)
    have p1 : 0 ≤ G k * v k := Int.mul_nonneg g1 (by omega)
    have p2 : G k * v k ≤ 9 * 1000000 := Int.mul_le_mul g2 v2 (by omega) (by omega)
    rw [e]
    omega
theorem dotN_step {G v : Nat → Int} {n k : Nat} (hn : n ≤ 8) (hk : k < n) (hG : ∀ j, j < n → 0 ≤ G j ∧ G j ≤ 9) (hv : ∀ j, j < n → 1 ≤ v j ∧ v j ≤ 1000000) : w64 (dotN G v k + w64 (G k * v k)) = dotN G v (k + 1) := by
  have b1 := dotN_bound k (by omega) hG hv
  have e : dotN G v (k + 1) = dotN G v k + G k * v k := by simp [dotN, foldN_succ]
  obtain ⟨g1, g2⟩ := hG k (by omega)
  obtain ⟨v1, v2⟩ := hv k (by omega)
  have p1 : 0 ≤ G k * v k := Int.mul_nonneg g1 (by omega)
  have p2 : G k * v k ≤ 9 * 1000000 := Int.mul_le_mul g2 v2 (by omega) (by omega)
  rw [e, w64_id (n := G k * v k) (by omega) (by omega), w64_id (by omega) (by omega)]
theorem spec_gwTimes_eq {n : Nat} {G : Nat → Nat → Int} {v : Nat → Int} (hn : n ≤ 8) (hG : ∀ i j, i < n → j < n → 0 ≤ G i j ∧ G i j ≤ 9) (hv : ∀ j, j < n → 1 ≤ v j ∧ v j ≤ 1000000) :
    spec_gwTimes (mat n n G) (tab n v) = some (tab n fun i => dotN (G i) v n) := by
  have inner : ∀ i, i < n → loopO (spec_gwTimes_b2 (tab n v) (tab n (G i))) (0, 0) = some (dotN (G i) v n) := fun i hi => by
    have h := loop_idx (body := spec_gwTimes_b2 (tab n v) (tab n (G i))) n (fun j => (dotN (G i) v j, (j : Int))) (dotN (G i) v n) (fun j hj => by
      simp only [spec_gwTimes_b2, tab_len, idxO_tab hj, Option.bind_some, show ((j : Int) < (n : Int)) from by omega, decide_true, if_true, w64_nat (show j < 9223372036854775807 by omega), dotN_step hn hj (fun j hj => hG i j hi hj) hv]) (by simp [spec_gwTimes_b2, tab_len])
    exact h
  have outer := loop_idx (body := spec_gwTimes_b1 (mat n n G) (tab n v)) n (fun i => (tab i fun i => dotN (G i) v n, (i : Int))) (tab n fun i => dotN (G i) v n) (fun i hi => by
    simp only [spec_gwTimes_b1, mat_len, idxO_mat hi, Option.bind_some, show ((i : Int) < (n : Int)) from by omega, decide_true, if_true, inner i hi, spec_gwTimes_k3, spec_gwTimes_k2, w64_nat (show i < 9223372036854775807 by omega)]
    rw [guardO_bind_pos (by simp [tab_len]; omega), tab_succ i fun i => dotN (G i) v n]) (by simp [spec_gwTimes_b1, mat_len])
  unfold spec_gwTimes
  have : loopO (spec_gwTimes_b1 (mat n n G) (tab n v)) ([], 0) = some (tab n fun i => dotN (G i) v n) := outer
  rw [this]
  rfl
theorem impl_times_eq {n : Nat} {G : Nat → Nat → Int} {v : Nat → Int} (hn : n ≤ 8) (hG : ∀ i j, i < n → j < n → 0 ≤ G i j ∧ G i j ≤ 9) (hv : ∀ j, j < n → 1 ≤ v j ∧ v j ≤ 1000000) :
    impl_times (mat n n G) (tab n v) = some (tab n fun i => dotN (G i) v n) := by
  let R : Nat → Nat → Nat → Int := fun i j k => if k < i then dotN (G k) v n else if k = i then dotN (G i) v j else 0
  have inner : ∀ i, i < n → loopO (impl_times_b2 (tab n v) (tab n (R i 0), (i : Int)) (tab n (G i))) (tab n (R i 0), 0) = some (tab n (R i n)) := fun i hi => by
    have h := loop_idx (body := impl_times_b2 (tab n v) (tab n (R i 0), (i : Int)) (tab n (G i))) n (fun j => (tab n (R i j), (j : Int))) (tab n (R i n)) (fun j hj => by
      simp only [impl_times_b2, tab_len, idxO_tab hj, idxO_tab hi, Option.bind_some, show ((j : Int) < (n : Int)) from by omega, decide_true, if_true, w64_nat (show j < 9223372036854775807 by omega), Int.toNat_natCast]
      rw [show R i j i = dotN (G i) v j by simp [R], dotN_step hn hj (fun j hj => hG i j hi hj) hv, tab_set hi]
      congr 3
      refine tab_ext fun k hk => ?_
      by_cases hki : k = i
      · subst hki; simp [R]
      · simp [R, hki]) (by simp [impl_times_b2, tab_len])
    exact h
  have outer := loop_idx (body := impl_times_b1 (mat n n G) (tab n v)) n (fun i => (tab n (R i 0), (i : Int))) (tab n (R n 0)) (fun i hi => by
    simp only [impl_times_b1, mat_len, idxO_mat hi, Option.bind_some, show ((i : Int) < (n : Int)) from by omega, decide_true, if_true, inner i hi, impl_times_k2, w64_nat (show i < 9223372036854775807 by omega)]
    congr 3
    refine tab_ext fun k hk => ?_
    by_cases h1 : k < i
    · simp [R, h1, show k < i + 1 by omega]
    · by_cases h2 : k = i
      · subst h2; simp [R]
      · have h3 : ¬ k < i + 1 := by omega
        by_cases h4 : k = i + 1
        · subst h4; simp [R, dotN, foldN_zero, show ¬ i + 1 < i by omega]
        · simp [R, h1, h2, h3, h4]) (by simp [impl_times_b1, mat_len])
  unfold impl_times
  rw [mat_len, guardO_bind_pos (by omega), Int.toNat_natCast, rep_tab]
  have e : tab n (fun _ => (0 : Int)) = tab n (R 0 0) := tab_ext fun k hk => by
    by_cases h : k = 0
    · subst h; simp [R, dotN, foldN_zero]
    · simp [R, h]
  rw [e]
  have : loopO (impl_times_b1 (mat n n G) (tab n v)) (tab n (R 0 0), 0) = some (tab n (R n 0)) := outer
  rw [this, Option.bind_some]
  simp only [impl_times_k1]
  congr 1
  exact tab_ext fun k hk => by simp [R, hk]
end Go.PV

set_option linter.all false
namespace Go.PV
theorem less_not {a b : Int × Int} (hl : less a b = true) : less b a = false := by
  simp only [less, decide_eq_true_eq, decide_eq_false_iff_not] at hl ⊢
  omega
def minStep (a b : Int × Int) : Int × Int := if less b a = true then b else a
def maxStep (a b : Int × Int) : Int × Int := if less a b = true then b else a
def mnN (r : Nat → Int × Int) (i : Nat) : Int × Int := foldN i (fun s j => minStep s (r j)) (r 0)
def mxN (r : Nat → Int × Int) (i : Nat) : Int × Int := foldN i (fun s j => maxStep s (r j)) (r 0)
theorem mnN_succ (r : Nat → Int × Int) (i : Nat) : mnN r (i + 1) = minStep (mnN r i) (r i) := by simp [mnN, foldN_succ]
theorem mxN_succ (r : Nat → Int × Int) (i : Nat) : mxN r (i + 1) = maxStep (mxN r i) (r i) := by simp [mxN, foldN_succ]
theorem less_self (a : Int × Int) : less a a = false := by simp [less]
theorem mnN_one (r : Nat → Int × Int) : mnN r 1 = r 0 := by simp [mnN, foldN, minStep, less_self]
theorem mxN_one (r : Nat → Int × Int) : mxN r 1 = r 0 := by simp [mxN, foldN, maxStep, less_self]
theorem mn_rat {r : Nat → Int × Int} {n : Nat} (h0 : isRat (r 0) = true) (h : ∀ i, i < n → isRat (r i) = true) : ∀ i, i ≤ n → isRat (mnN r i) = true ∧ isRat (mxN r i) = true
  | 0, _ => by simpa [mnN, mxN, foldN_zero] using h0
  | i + 1, hi => by
    have ih := mn_rat h0 h i (by omega)
    rw [mnN_succ, mxN_succ]
    unfold minStep maxStep
    refine ⟨?_, ?_⟩
    · split
      · exact h i (by omega)
      · exact ih.1
    · split
      · exact h i (by omega)
      · exact ih.2
theorem cmp_lt (a b : Int × Int) : decide (cmp a b < 0) = less a b := by
  unfold cmp less
  by_cases h1 : a.1 * b.2 < b.1 * a.2
  · simp [h1]
  · by_cases h2 : a.1 * b.2 > b.1 * a.2 <;> simp [h1, h2]
theorem spec_ivLess_eq (a b : Int × Int) (ha : isRat a = true) (hb : isRat b = true) : spec_ivLess a b = some (minStep a b) := by
  unfold spec_ivLess minStep
  rw [spec_raCmp_eq a b (tame_of ha) (tame_of hb), Option.bind_some, cmp_lt]
  cases h : less a b
  · simp only [Bool.false_eq_true, if_false]
    cases h2 : less b a
    · simp only [Bool.false_eq_true, if_false]
      congr 1
      refine (cmp_same ha hb ?_).symm
      simp only [less, decide_eq_false_iff_not] at h h2
      omega
    · rfl
  · rw [less_not h]; rfl
theorem spec_ivGreater_eq (a b : Int × Int) (ha : isRat a = true) (hb : isRat b = true) : spec_ivGreater a b = some (maxStep a b) := by
  unfold spec_ivGreater maxStep
  rw [spec_raCmp_eq a b (tame_of ha) (tame_of hb), Option.bind_some, cmp_lt]
  cases less a b <;> rfl

/-- The ratios. -/
def ratN (G : Nat → Nat → Int) (v : Nat → Int) (n i : Nat) : Int × Int := (lowest (dotN (G i) v n) (v i)).1
section
variable {n : Nat} {G : Nat → Nat → Int} {v : Nat → Int}
theorem ratN_rat (hn : n ≤ 8) (hG : ∀ i j, i < n → j < n → 0 ≤ G i j ∧ G i j ≤ 9) (hv : ∀ j, j < n → 1 ≤ v j ∧ v j ≤ 1000000) {i : Nat} (hi : i < n) : isRat (ratN G v n i) = true := by
  have b := dotN_bound n (Nat.le_refl n) (fun j hj => hG i j hi hj) hv
  have c := hv i hi
  exact lowest_isRat b.1 (by omega) c.1 (by omega)
theorem spec_gwRatios_eq (hn : n ≤ 8) (hG : ∀ i j, i < n → j < n → 0 ≤ G i j ∧ G i j ≤ 9) (hv : ∀ j, j < n → 1 ≤ v j ∧ v j ≤ 1000000) : spec_gwRatios (mat n n G) (tab n v) = some (tab n (ratN G v n)) := by
  have h := loop_idx (body := spec_gwRatios_b1 (tab n v) (tab n fun i => dotN (G i) v n)) n (fun i => (tab i (ratN G v n), (i : Int))) (tab n (ratN G v n)) (fun i hi => by
    have b := dotN_bound n (Nat.le_refl n) (fun j hj => hG i j hi hj) hv
    have c := hv i hi
    simp only [spec_gwRatios_b1, tab_len, idxO_tab hi, Option.bind_some, show ((i : Int) < (n : Int)) from by omega, decide_true, if_true, spec_raMake_eq _ _ b.1 (by omega) c.1 (by omega), w64_nat (show i < 9223372036854775807 by omega)]
    rw [guardO_bind_pos (by simp; omega), ← tab_succ i (ratN G v n)]
    rfl) (by simp [spec_gwRatios_b1, tab_len])
  unfold spec_gwRatios
  rw [spec_gwTimes_eq hn hG hv, Option.bind_some]
  have h' : loopO (spec_gwRatios_b1 (tab n v) (tab n fun i => dotN (G i) v n)) ([], 0) = some (tab n (ratN G v n)) := h
  rw [h']
  rfl
theorem spec_gwBounds_eq (h1 : 1 ≤ n) (hn : n ≤ 8) (hG : ∀ i j, i < n → j < n → 0 ≤ G i j ∧ G i j ≤ 9) (hv : ∀ j, j < n → 1 ≤ v j ∧ v j ≤ 1000000) :
    spec_gwBounds (mat n n G) (tab n v) = some (mnN (ratN G v n) n, mxN (ratN G v n) n) := by
  have hr : ∀ i, i < n → isRat (ratN G v n i) = true := fun i hi => ratN_rat hn hG hv hi
  generalize hR : ratN G v n = r at hr
  have h := loop_idx (body := spec_gwBounds_b1 (tab n r)) n (fun i => ((mnN r i).1, (mnN r i).2, (mxN r i).1, (mxN r i).2, (i : Int))) ((mnN r n).1, (mnN r n).2, (mxN r n).1, (mxN r n).2) (fun i hi => by
    have b := mn_rat (hr 0 (by omega)) hr i (by omega)
    simp only [spec_gwBounds_b1, tab_len, idxO_tab hi, Option.bind_some, show ((i : Int) < (n : Int)) from by omega, decide_true, if_true, w64_nat (show i < 9223372036854775807 by omega)]
    rw [show ((mnN r i).1, (mnN r i).2) = mnN r i from rfl, show ((mxN r i).1, (mxN r i).2) = mxN r i from rfl, spec_ivLess_eq _ _ b.1 (hr i hi), spec_ivGreater_eq _ _ b.2 (hr i hi)]
    simp only [Option.bind_some, mnN_succ, mxN_succ]) (by simp [spec_gwBounds_b1, tab_len])
  unfold spec_gwBounds
  rw [spec_gwRatios_eq hn hG hv, hR, Option.bind_some, show (0 : Int) = ((0 : Nat) : Int) from rfl, idxO_tab (by omega), Option.bind_some]
  have h' : loopO (spec_gwBounds_b1 (tab n r)) ((r 0).1, (r 0).2, (r 0).1, (r 0).2, ((0 : Nat) : Int)) = some ((mnN r n).1, (mnN r n).2, (mxN r n).1, (mxN r n).2) := h
  rw [h']
  rfl
theorem minFunc_eq {r : Nat → Int × Int} (h1 : 1 ≤ n) (hn : n ≤ 1048576) (hr : ∀ i, i < n → isRat (r i) = true) : slices_MinFunc_Limpl_Rat_impl_Rat (tab n r) (fun x0 x1 => impl_compare x0 x1) = some (mnN r n) := by
  have h := loop_idx (body := slices_MinFunc_Limpl_Rat_impl_Rat_b1 (tab n r) (fun x0 x1 => impl_compare x0 x1)) (n - 1) (fun i => ((mnN r (i + 1)).1, (mnN r (i + 1)).2, ((i + 1 : Nat) : Int))) (mnN r n) (fun i hi => by
    have hi' : i + 1 < n := by omega
    have b := mn_rat (hr 0 (by omega)) hr (i + 1) (by omega)
    simp only [slices_MinFunc_Limpl_Rat_impl_Rat_b1, tab_len, idxO_tab hi', Option.bind_some, show (((i + 1 : Nat) : Int) < (n : Int)) from by omega, decide_true, if_true, w64_nat (show i + 1 < 9223372036854775807 by omega)]
    rw [show ((mnN r (i + 1)).1, (mnN r (i + 1)).2) = mnN r (i + 1) from rfl, impl_compare_eq _ _ (tame_of (hr _ hi')) (tame_of b.1), Option.bind_some, cmp_lt, mnN_succ r (i + 1)]
    unfold minStep
    cases less (r (i + 1)) (mnN r (i + 1)) <;> simp) (by
    have e : n - 1 + 1 = n := by omega
    simp [slices_MinFunc_Limpl_Rat_impl_Rat_b1, tab_len, e])
  unfold slices_MinFunc_Limpl_Rat_impl_Rat slices_MinFunc_Limpl_Rat_impl_Rat_k1
  have hl : ¬ (n : Int) < 1 := by omega
  simp only [tab_len, hl, decide_false, Bool.false_eq_true, if_false]
  rw [show (0 : Int) = ((0 : Nat) : Int) from rfl, idxO_tab (by omega), Option.bind_some]
  simp only [Nat.zero_add, mnN_one] at h
  have h' : loopO (slices_MinFunc_Limpl_Rat_impl_Rat_b1 (tab n r) (fun x0 x1 => impl_compare x0 x1)) ((r 0).1, (r 0).2, 1) = some (mnN r n) := h
  rw [h']
  rfl
theorem maxFunc_eq {r : Nat → Int × Int} (h1 : 1 ≤ n) (hn : n ≤ 1048576) (hr : ∀ i, i < n → isRat (r i) = true) : slices_MaxFunc_Limpl_Rat_impl_Rat (tab n r) (fun x0 x1 => impl_compare x0 x1) = some (mxN r n) := by
  have h := loop_idx (body := slices_MaxFunc_Limpl_Rat_impl_Rat_b1 (tab n r) (fun x0 x1 => impl_compare x0 x1)) (n - 1) (fun i => ((mxN r (i + 1)).1, (mxN r (i + 1)).2, ((i + 1 : Nat) : Int))) (mxN r n) (fun i hi => by
    have hi' : i + 1 < n := by omega
    have b := mn_rat (hr 0 (by omega)) hr (i + 1) (by omega)
    simp only [slices_MaxFunc_Limpl_Rat_impl_Rat_b1, tab_len, idxO_tab hi', Option.bind_some, show (((i + 1 : Nat) : Int) < (n : Int)) from by omega, decide_true, if_true, w64_nat (show i + 1 < 9223372036854775807 by omega)]
    rw [show ((mxN r (i + 1)).1, (mxN r (i + 1)).2) = mxN r (i + 1) from rfl, impl_compare_eq _ _ (tame_of (hr _ hi')) (tame_of b.2), Option.bind_some, cmp_gt, mxN_succ r (i + 1)]
    unfold maxStep
    cases less (mxN r (i + 1)) (r (i + 1)) <;> simp) (by
    have e : n - 1 + 1 = n := by omega
    simp [slices_MaxFunc_Limpl_Rat_impl_Rat_b1, tab_len, e])
  unfold slices_MaxFunc_Limpl_Rat_impl_Rat slices_MaxFunc_Limpl_Rat_impl_Rat_k1
  have hl : ¬ (n : Int) < 1 := by omega
  simp only [tab_len, hl, decide_false, Bool.false_eq_true, if_false]
  rw [show (0 : Int) = ((0 : Nat) : Int) from rfl, idxO_tab (by omega), Option.bind_some]
  simp only [Nat.zero_add, mxN_one] at h
  have h' : loopO (slices_MaxFunc_Limpl_Rat_impl_Rat_b1 (tab n r) (fun x0 x1 => impl_compare x0 x1)) ((r 0).1, (r 0).2, 1) = some (mxN r n) := h
  rw [h']
  rfl
theorem impl_ratioBounds_eq (h1 : 1 ≤ n) (hn : n ≤ 8) (hG : ∀ i j, i < n → j < n → 0 ≤ G i j ∧ G i j ≤ 9) (hv : ∀ j, j < n → 1 ≤ v j ∧ v j ≤ 1000000) :
    impl_ratioBounds (mat n n G) (tab n v) = some (mnN (ratN G v n) n, mxN (ratN G v n) n) := by
  have hr : ∀ i, i < n → isRat (ratN G v n i) = true := fun i hi => ratN_rat hn hG hv hi
  have h := loop_idx (body := impl_ratioBounds_b1 (tab n v) (tab n fun i => dotN (G i) v n)) n (fun i => (tab i (ratN G v n), (i : Int))) (tab n (ratN G v n)) (fun i hi => by
    have b := dotN_bound n (Nat.le_refl n) (fun j hj => hG i j hi hj) hv
    have c := hv i hi
    simp only [impl_ratioBounds_b1, tab_len, idxO_tab hi, Option.bind_some, show ((i : Int) < (n : Int)) from by omega, decide_true, if_true, impl_lowest_eq _ _ (show v i ≠ 0 by omega) (show -9223372036854775808 < dotN (G i) v n by omega) (by omega) (by omega) (by omega), w64_nat (show i < 9223372036854775807 by omega)]
    rw [guardO_bind_pos (by simp; omega), ← tab_succ i (ratN G v n)]
    rfl) (by simp [impl_ratioBounds_b1, tab_len])
  unfold impl_ratioBounds
  rw [impl_times_eq hn hG hv, Option.bind_some]
  have h' : loopO (impl_ratioBounds_b1 (tab n v) (tab n fun i => dotN (G i) v n)) ([], 0) = some (tab n (ratN G v n)) := h
  rw [h', Option.bind_some]
  simp only [impl_ratioBounds_k1, minFunc_eq h1 (by omega) hr, maxFunc_eq h1 (by omega) hr, Option.bind_some]
end
/-- A graph and a vector for it. -/
def asked (g : List (List Int)) (u : List Int) : Bool := isGraph g && (isVec u && ((u.length : Int) == (g.length : Int)))
theorem spec_gwAsked_eq (g : List (List Int)) (u : List Int) (hg : sized g) (hu : u.length ≤ 4611686018427387904) : spec_gwAsked g u = some (asked g u) := by
  unfold spec_gwAsked asked
  rw [spec_grGood_eq g hg, Option.bind_some, spec_gwVector_eq u hu]
  cases isGraph g <;> cases isVec u <;> simp
theorem impl_isVectorOf_eq (g : List (List Int)) (u : List Int) (hg : sized g) (hu : u.length ≤ 4611686018427387904) : impl_isVectorOf g u = some (asked g u) := by
  unfold impl_isVectorOf asked
  rw [impl_isGraph_eq g hg, Option.bind_some, impl_isVector_eq u hu]
  have e : ((g.length : Int) == (u.length : Int)) = ((u.length : Int) == (g.length : Int)) := by rw [Bool.eq_iff_iff]; simp only [beq_iff_eq]; omega
  cases isGraph g <;> cases isVec u <;> simp [e]
theorem asked_mat {g : List (List Int)} {u : List Int} (h : asked g u = true) : ∃ (n : Nat) (G : Nat → Nat → Int) (v : Nat → Int), 1 ≤ n ∧ n ≤ 8 ∧ g = mat n n G ∧ u = tab n v ∧ (∀ i j, i < n → j < n → 0 ≤ G i j ∧ G i j ≤ 9) ∧ ∀ j, j < n → 1 ≤ v j ∧ v j ≤ 1000000 := by
  simp only [asked, Bool.and_eq_true, beq_iff_eq] at h
  obtain ⟨h1, h2, h3⟩ := h
  obtain ⟨n, G, a, b, rfl, d⟩ := isGraph_mat h1
  rw [mat_len] at h3
  have hl : u.length = n := by omega
  have e := tab_eta u
  rw [hl] at e
  refine ⟨n, G, fun i => u.getD i default, a, b, rfl, e, d, fun j hj => ?_⟩
  simp only [isVec, Bool.and_eq_true] at h2
  have h4 := h2.2
  rw [e, tab_all] at h4
  have := inB_iff.1 (h4 j hj)
  exact this
theorem both_RatioBounds (g : List (List Int)) (u : List Int) (hg : sized g) (hu : u.length ≤ 4611686018427387904) : ∃ r, spec_RatioBounds g u = some r ∧ impl_RatioBounds g u = some r := by
  unfold spec_RatioBounds impl_RatioBounds
  rw [spec_gwAsked_eq g u hg hu, impl_isVectorOf_eq g u hg hu]
  simp only [Option.bind_some]
  cases h : asked g u
  · exact ⟨((0, 0), (0, 0), false), by simp, by simp⟩
  · obtain ⟨n, G, v, a, b, rfl, rfl, c, d⟩ := asked_mat h
    rw [spec_gwBounds_eq a b c d, impl_ratioBounds_eq a b c d]
    exact ⟨(mnN (ratN G v n) n, mxN (ratN G v n) n, true), by simp, by simp⟩
theorem laws_FnExactRatioBounds_eq (g : List (List Int)) (u : List Int) (hl : g.length ≤ 9223372036854775807) (hr : ∀ row ∈ g, row.length ≤ 9223372036854775807) : laws_FnExactRatioBounds g u = some true := by
  obtain ⟨v, h1, h2⟩ := laws_szIntSS_eq g hl hr
  unfold laws_FnExactRatioBounds
  by_cases hu : (u.length : Int) > 1048576
  · simp [hu]
  · simp only [hu, decide_false, Bool.false_eq_true, if_false]
    rw [h1, Option.bind_some]
    by_cases hv : v < 0
    · simp [hv]
    · have hs := h2 (by omega)
      obtain ⟨r, e1, e2⟩ := both_RatioBounds g u hs (by omega)
      simp only [hv, decide_false, Bool.false_eq_true, if_false, laws_toIntSS_eq g hs, laws_toIntS_eq u (by omega), e1, e2, laws_eqRat_self, laws_eqIntSS_self g hs, laws_eqIntS_self u (by omega), Option.bind_some]
      simp
end Go.PV

/-
  Plain laws: lists turned round, ones.
  Conditions: none.
-/
set_option linter.all false
namespace Go.PV
section
variable {α : Type} [Inhabited α]
/-- Two ends exchanged, inward. -/
def revSt (xs : List α) (k : Nat) : List α := tab xs.length fun p => if p < k ∨ xs.length ≤ p + k then xs.getD (xs.length - 1 - p) default else xs.getD p default
theorem getD_lt {xs : List α} {i : Nat} (h : i < xs.length) : xs[i]? = some (xs.getD i default) := by simp [h]
theorem rev_loop (xs : List α) (hl : xs.length ≤ 4611686018427387904) (body : (List α × Int × Int) → Option ((List α × Int × Int) ⊕ List α))
    (hb : ∀ x, body x = if (decide (x.2.1 < x.2.2)) = true then (idxO x.1 x.2.1).bind fun v4 => (idxO x.1 x.2.2).bind fun v5 => (guardO (x.2.1 ≠ x.2.2)).bind fun u6 =>
      some (.inl (((x.1.set (Int.toNat x.2.1) v5).set (Int.toNat x.2.2) v4), (w64 (x.2.1 + 1)), (w64 (x.2.2 - 1)))) else some (.inr x.1)) :
    loopO body (xs, 0, w64 ((xs.length : Int) - 1)) = some xs.reverse := by
  have hx := loop_idx (body := body) (xs.length / 2) (fun k => (revSt xs k, (k : Int), ((xs.length : Int) - 1 - k))) xs.reverse (fun k hk => by
    have h1 : k < xs.length := by omega
    have h2 : xs.length - 1 - k < xs.length := by omega
    have e1 : ((xs.length : Int) - 1 - k) = ((xs.length - 1 - k : Nat) : Int) := by omega
    rw [hb]
    simp only [e1, show ((k : Int) < ((xs.length - 1 - k : Nat) : Int)) from by omega, decide_true, if_true]
    rw [revSt, idxO_tab h1, idxO_tab h2, Option.bind_some, Option.bind_some, guardO_bind_pos (by omega)]
    have e3 : ¬ (k < k ∨ xs.length ≤ k + k) := by omega
    have e4 : ¬ (xs.length - 1 - k < k ∨ xs.length ≤ xs.length - 1 - k + k) := by omega
    rw [if_neg e3, if_neg e4, w64_nat (show k < 9223372036854775807 by omega), w64_id (by omega) (by omega), Int.toNat_natCast, Int.toNat_natCast, tab_set h1, tab_set h2]
    congr 2
    refine Prod.ext ?_ (Prod.ext rfl (by show ((xs.length - 1 - k : Nat) : Int) - 1 = (xs.length : Int) - 1 - ((k + 1 : Nat) : Int); omega))
    refine tab_ext fun p hp => ?_
    by_cases c1 : p = xs.length - 1 - k
    · subst c1
      rw [if_pos rfl, if_pos (by omega), show xs.length - 1 - (xs.length - 1 - k) = k from by omega]
    · rw [if_neg c1]
      by_cases c2 : p = k
      · subst c2; rw [if_pos rfl, if_pos (by omega)]
      · rw [if_neg c2]
        by_cases c3 : p < k ∨ xs.length ≤ p + k
        · rw [if_pos c3, if_pos (by omega)]
        · rw [if_neg c3, if_neg (by omega)]) (by
    rw [hb]
    have : ¬ (((xs.length / 2 : Nat) : Int) < ((xs.length : Int) - 1 - (xs.length / 2 : Nat))) := by omega
    simp only [this, decide_false, Bool.false_eq_true, if_false]
    congr 2
    apply List.ext_getElem?
    intro p
    by_cases hp : p < xs.length
    · rw [revSt, tab_get hp, List.getElem?_reverse hp, getD_lt (by omega)]
      congr 1
      split
      · rfl
      · congr 1; omega
    · rw [List.getElem?_eq_none (by rw [revSt, tab_len]; omega), List.getElem?_eq_none (by simp; omega)])
  have e0 : revSt xs 0 = xs := by
    apply List.ext_getElem?
    intro p
    by_cases hp : p < xs.length
    · rw [revSt, tab_get hp, if_neg (by omega), getD_lt hp]
    · rw [List.getElem?_eq_none (by rw [revSt, tab_len]; omega), List.getElem?_eq_none (by omega)]
  simp only [e0] at hx
  rw [w64_id (by omega) (by omega)]
  have : ((xs.length : Int) - 1) = (xs.length : Int) - 1 - ((0 : Nat) : Int) := by omega
  rw [this]
  exact hx
end
theorem slices_Reverse_int_eq (xs : List Int) (hl : xs.length ≤ 4611686018427387904) : slices_Reverse_Lint_int xs = some xs.reverse := by
  unfold slices_Reverse_Lint_int
  rw [rev_loop xs hl slices_Reverse_Lint_int_b1 fun x => rfl]
  rfl

/-! ### ones -/
theorem mul_1_0 : math_bits_Mul 1 0 = some (0, 0) := by kernel_rfl
theorem mul_1_1 : math_bits_Mul 1 1 = some (0, 1) := by kernel_rfl
theorem mul_1_2 : math_bits_Mul 1 2 = some (0, 2) := by kernel_rfl
theorem mul_1_3 : math_bits_Mul 1 3 = some (0, 3) := by kernel_rfl
theorem mul_1_4 : math_bits_Mul 1 4 = some (0, 4) := by kernel_rfl
theorem mul_1_5 : math_bits_Mul 1 5 = some (0, 5) := by kernel_rfl
theorem mul_1_6 : math_bits_Mul 1 6 = some (0, 6) := by kernel_rfl
theorem mul_1_7 : math_bits_Mul 1 7 = some (0, 7) := by kernel_rfl
theorem mul_1_8 : math_bits_Mul 1 8 = some (0, 8) := by kernel_rfl
theorem mul_one (n : Nat) (hn : n ≤ 8) : math_bits_Mul 1 (n : Int) = some (0, (n : Int)) := by
  match n, hn with
  | 0, _ => exact mul_1_0
  | 1, _ => exact mul_1_1
  | 2, _ => exact mul_1_2
  | 3, _ => exact mul_1_3
  | 4, _ => exact mul_1_4
  | 5, _ => exact mul_1_5
  | 6, _ => exact mul_1_6
  | 7, _ => exact mul_1_7
  | 8, _ => exact mul_1_8
  | n + 9, h => omega
theorem rep_copy (n m : Nat) (h1 : 1 ≤ m) (h2 : m < n) : copyAt (List.replicate m (1 : Int) ++ List.replicate (n - m) 0) m ((List.replicate m (1 : Int) ++ List.replicate (n - m) 0).take m) = List.replicate (m + min m (n - m)) 1 ++ List.replicate (n - (m + min m (n - m))) 0 := by
  have hlen : (List.replicate m (1 : Int) ++ List.replicate (n - m) 0).length = n := by simp; omega
  unfold copyAt
  rw [hlen]
  have t1 : (List.replicate m (1 : Int) ++ List.replicate (n - m) 0).take m = List.replicate m 1 := by simp
  rw [t1]
  simp only [List.length_replicate, List.take_replicate, List.drop_append, List.drop_replicate]
  rw [show m - (m + min m (n - m)) = 0 from by omega, show n - m - (m + min m (n - m) - m) = n - (m + min m (n - m)) from by omega, List.replicate_zero, List.nil_append, List.replicate_append_replicate]
  rw [show min (n - m) m = min m (n - m) from by omega]
theorem rep_loop (n : Nat) (hn : n ≤ 8) : ∀ k m, n - m ≤ k → 1 ≤ m → m ≤ n → loopO slices_Repeat_Lint_int_b1 (List.replicate m (1 : Int) ++ List.replicate (n - m) 0, (m : Int)) = some (List.replicate n 1)
  | 0, m, hk, h1, h2 => by
    have : m = n := by omega
    subst this
    rw [loopO_eq]
    simp [slices_Repeat_Lint_int_b1]
  | k + 1, m, hk, h1, h2 => by
    by_cases h : m = n
    · subst h
      rw [loopO_eq]
      simp [slices_Repeat_Lint_int_b1]
    · rw [loopO_eq]
      have hlen : (List.replicate m (1 : Int) ++ List.replicate (n - m) 0).length = n := by simp; omega
      have ih := rep_loop n hn k (m + min m (n - m)) (by omega) (by omega) (by omega)
      simp only [slices_Repeat_Lint_int_b1, hlen, show ((m : Int) < (n : Int)) from by omega, decide_true, if_true, Int.toNat_natCast]
      rw [guardO_bind_pos (by omega), rep_copy n m h1 (by omega)]
      have : w64 ((m : Int) + ((min m (n - m) : Nat) : Int)) = ((m + min m (n - m) : Nat) : Int) := by rw [w64_id (by omega) (by omega)]; omega
      simp only [this]
      exact ih
theorem ones_eq (n : Nat) (h1 : 1 ≤ n) (hn : n ≤ 8) : slices_Repeat_Lint_int [1] (n : Int) = some (List.replicate n 1) := by
  unfold slices_Repeat_Lint_int
  have e1 : ¬ ((n : Int) < 0) := by omega
  simp only [e1, decide_false, Bool.false_eq_true, if_false]
  unfold slices_Repeat_Lint_int_k1
  have e2 : IntKind.wrap .u64 ((([1] : List Int).length : Nat) : Int) = 1 := rfl
  have e3 : IntKind.wrap .u64 (n : Int) = (n : Int) := by
    have := IntWalk.u64_in (n : Int) ⟨by omega, by omega⟩
    exact this
  rw [e2, e3, mul_one n hn, Option.bind_some]
  have e4 : ¬ ((n : Int) > 9223372036854775807) := by omega
  simp only [show ¬ ((0 : Int) > 0) from by omega, e4, decide_false, Bool.or_self, Bool.false_eq_true, if_false]
  unfold slices_Repeat_Lint_int_k2
  have e5 : IntKind.wrap .i64 (n : Int) = (n : Int) := w64_id (by omega) (by omega)
  simp only [e5, Int.toNat_natCast]
  rw [guardO_bind_pos (by omega)]
  have e6 : copyAt (List.replicate n (0 : Int)) 0 [1] = List.replicate 1 (1 : Int) ++ List.replicate (n - 1) 0 := by
    obtain ⟨k, rfl⟩ : ∃ k, n = k + 1 := ⟨n - 1, by omega⟩
    simp [copyAt]
    first | done | (rw [show 1 - (k + 1) = 0 from by omega]; first | done | (rw [show min 1 (k + 1) = 1 from by omega]; first | done | simp))
  have e7 : (((min ([1] : List Int).length (List.replicate n (0 : Int)).length : Nat)) : Int) = ((1 : Nat) : Int) := by simp; omega
  rw [e6, e7, rep_loop n hn n 1 (by omega) (by omega) h1]
  rfl

theorem spec_ones (a : List (List Int)) (n : Nat) (hn : n ≤ 1048576) {body : (List Int × Int) → Option ((List Int × Int) ⊕ List Int)}
    (hb : ∀ x, body x = if (decide (x.2 < ((List.replicate (Int.toNat (n : Int)) (0 : Int)).length : Int))) = true then (idxO x.1 x.2).bind fun v9 => some (.inl ((x.1.set (Int.toNat x.2) 1), (w64 (x.2 + 1)))) else some (.inr x.1)) :
    loopO body (List.replicate n (0 : Int), 0) = some (List.replicate n 1) := by
  have hx := loop_idx (body := body) n (fun i => (tab n (fun k => if k < i then (1 : Int) else 0), (i : Int))) (List.replicate n 1) (fun i hi => by
    rw [hb]
    simp only [Int.toNat_natCast, List.length_replicate, show ((i : Int) < (n : Int)) from by omega, decide_true, if_true, idxO_tab hi, Option.bind_some, tab_set hi, w64_nat (show i < 9223372036854775807 by omega)]
    congr 3
    refine tab_ext fun k _ => ?_
    by_cases h : k = i
    · subst h; simp
    · simp only [h, if_false]
      by_cases h2 : k < i
      · rw [if_pos h2, if_pos (by omega)]
      · rw [if_neg h2, if_neg (by omega)]) (by
    rw [hb]
    simp only [Int.toNat_natCast, List.length_replicate, Int.lt_irrefl, decide_false, Bool.false_eq_true, if_false]
    congr 2
    rw [rep_tab]
    exact tab_ext fun k hk => by rw [if_pos hk])
  rw [rep_tab]
  exact hx
theorem ones_tab (n : Nat) : List.replicate n (1 : Int) = tab n fun _ => 1 := rep_tab n 1
theorem both_RowSums (g : List (List Int)) (hg : sized g) : ∃ r, r.1.length ≤ 8 ∧ spec_RowSums g = some r ∧ impl_RowSums g = some r := by
  unfold spec_RowSums impl_RowSums
  rw [spec_grGood_eq g hg, impl_isGraph_eq g hg]
  cases h : isGraph g
  · exact ⟨([], false), by simp, rfl, rfl⟩
  · obtain ⟨n, G, h1, h2, rfl, hG⟩ := isGraph_mat h
    simp only [Option.bind_some, Bool.not_true, Bool.false_eq_true, if_false, mat_len]
    rw [guardO_bind_pos (by omega), ones_eq n h1 h2, Int.toNat_natCast, spec_ones (body := spec_RowSums_b1 (mat n n G)) (mat n n G) n (by omega) (fun x => by simp only [spec_RowSums_b1, mat_len])]
    simp only [Option.bind_some, spec_RowSums_k1, ones_tab]
    rw [spec_gwTimes_eq h2 hG (fun j _ => by omega), impl_times_eq h2 hG (fun j _ => by omega)]
    exact ⟨(tab n fun i => dotN (G i) (fun _ => 1) n, true), by simp [tab_len]; omega, by simp, by simp⟩
/-- Two functions that hand back a list and whether there is one: a law on a graph. -/
theorem laws_FnExactRowSums_eq (g : List (List Int)) (hl : g.length ≤ 9223372036854775807) (hr : ∀ row ∈ g, row.length ≤ 9223372036854775807) : laws_FnExactRowSums g = some true := by
  obtain ⟨v, h1, h2⟩ := laws_szIntSS_eq g hl hr
  unfold laws_FnExactRowSums
  rw [h1, Option.bind_some]
  by_cases hv : v < 0
  · simp [hv]
  · have hs := h2 (by omega)
    obtain ⟨⟨r, ok⟩, e0, e1, e2⟩ := both_RowSums g hs
    obtain ⟨k', g', e3, e4, e5⟩ := laws_markIntSS_eq g hs
    have e0 : r.length ≤ 8 := e0
    have e7 : ¬ (k' < 0) := by omega
    have e8 : ¬ ((1 : Int) + (r.length : Int) < 0) := by omega
    simp only [hv, decide_false, Bool.false_eq_true, if_false, laws_toIntSS_eq g hs, e1, e2, laws_eqIntS_self r (by omega), laws_eqIntSS_self g hs, Option.bind_some, e3, e7,
      laws_markIntS_eq r 1 (by omega) (by omega), laws_heldIntS_eq r.length 1 (by omega) (by omega), beq_self_eq_true, Bool.not_true, Bool.or_self, bne_self_eq_false, e8]

/-! ### polynomials turned round -/
/-- Without zeros at the end. -/
def trimZ (c : List Int) : List Int := (c.reverse.dropWhile (· == 0)).reverse
theorem trimZ_app (c : List Int) (x : Int) : trimZ (c ++ [x]) = if x = 0 then trimZ c else c ++ [x] := by
  unfold trimZ
  rw [List.reverse_append]
  simp only [List.reverse_cons, List.reverse_nil, List.nil_append, List.cons_append, List.dropWhile_cons]
  by_cases h : x = 0
  · simp [h]
  · simp [h]
theorem trimZ_len (c : List Int) : (trimZ c).length ≤ c.length := by
  unfold trimZ
  have := (List.dropWhile_sublist (· == 0) (l := c.reverse)).length_le
  simpa using this
theorem trim_loop {body : List Int → Option (List Int ⊕ List Int)} (hb : ∀ x, body x = ((if (decide ((x.length : Int) > 0)) = true then (idxO x (w64 ((x.length : Int) - 1))).bind fun v5 => some (v5 == 0) else some false).bind fun w6 =>
      if w6 = true then (guardO (0 ≤ (w64 ((x.length : Int) - 1)) ∧ (w64 ((x.length : Int) - 1)) ≤ (x.length : Int))).bind fun u8 => some (.inl (x.take (Int.toNat (w64 ((x.length : Int) - 1))))) else some (.inr x))) : ∀ (k : Nat) (c : List Int), c.length = k → k ≤ 1048576 → loopO body c = some (trimZ c)
  | 0, c, h, _ => by
    have : c = [] := List.eq_nil_of_length_eq_zero h
    subst this
    rw [loopO_eq, hb]; rfl
  | k + 1, c, h, hk => by
    rcases snoc_cases' c with rfl | ⟨d, x, rfl⟩
    · simp at h
    · have hd : d.length = k := by simpa using h
      rw [loopO_eq, hb]
      have e1 : w64 (((d ++ [x]).length : Int) - 1) = (d.length : Int) := by rw [List.length_append, List.length_singleton, w64_id (by omega) (by omega)]; omega
      have e2 : idxO (d ++ [x]) (d.length : Int) = some x := by rw [idxO_nat]; simp
      simp only [e1, e2, show (((d ++ [x]).length : Int) > 0) from by rw [List.length_append, List.length_singleton]; omega, decide_true, if_true, Option.bind_some, trimZ_app]
      by_cases hx : x = 0
      · subst hx
        simp only [beq_self_eq_true, if_true]
        rw [guardO_bind_pos (by rw [List.length_append, List.length_singleton]; omega), Int.toNat_natCast]
        simp only [List.take_left]
        exact trim_loop hb k d hd (by omega)
      · have : (x == 0) = false := by simpa using hx
        simp only [this, Bool.false_eq_true, if_false, hx]
where
  snoc_cases' (l : List Int) : l = [] ∨ ∃ d x, l = d ++ [x] := by
    rcases List.eq_nil_or_concat l with h | ⟨d, x, h⟩
    · exact .inl h
    · exact .inr ⟨d, x, by simpa using h⟩
theorem trimZ_last (c : List Int) (h : trimZ c ≠ []) : ∃ x, (trimZ c).getLast? = some x ∧ x ≠ 0 := by
  unfold trimZ at h ⊢
  rw [List.getLast?_reverse]
  cases hd : c.reverse.dropWhile (· == 0) with
  | nil => rw [hd] at h; simp at h
  | cons x l =>
    refine ⟨x, rfl, ?_⟩
    have := List.head_dropWhile_not (· == (0 : Int)) (l := c.reverse) (by rw [hd]; simp)
    simp only [hd, List.head_cons] at this
    simpa using this
theorem both_poly2 (c : List Int) (hc : c.length ≤ 9) : ∃ r, r.1.length ≤ 9 ∧ spec_poIf c = some r ∧ impl_polynomial c = some r := by
  have l1 := trim_loop (body := spec_poTrim_b1) (fun x => rfl) c.length c rfl (by omega)
  have l2 := trim_loop (body := impl_polynomial_b1) (fun x => rfl) c.length c rfl (by omega)
  have hT := trimZ_len c
  generalize hd : trimZ c = d at l1 l2 hT
  have hlast : d ≠ [] → ∃ x, idxO d (w64 ((d.length : Int) - 1)) = some x ∧ x ≠ 0 := fun h => by
    obtain ⟨x, h1, h2⟩ := trimZ_last c (by rw [hd]; exact h)
    have hp : 0 < d.length := List.length_pos_iff.2 h
    have e1 : w64 ((d.length : Int) - 1) = ((d.length - 1 : Nat) : Int) := by rw [w64_id (by omega) (by omega)]; omega
    rw [hd, List.getLast?_eq_getElem?] at h1
    exact ⟨x, by rw [e1, idxO_nat]; exact h1, h2⟩
  have h9 : ¬ ((d.length : Int) > 9) := by omega
  have h9' : ((d.length : Int) ≤ 9) := by omega
  have hlen : d.length ≤ 4611686018427387904 := by omega
  have hcf := slices_ContainsFunc_Lint_int_eq d (fun x0 => impl_isPolynomial_1 x0) (fun x => !inB (-1000000) 1000000 x) (fun x => by simp [impl_isPolynomial_1, impl_within_eq]) hlen
  have hcl : slices_Clone_Lint_int d = some d := by
    unfold slices_Clone_Lint_int
    rw [guardO_bind_pos (by omega)]
  have s1 : spec_poIf c = (spec_poGood d).bind fun v2 => if (!v2) = true then some ([], false) else some (d, true) := by
    unfold spec_poIf spec_poTrim
    rw [l1]
    simp only [Option.bind_some, spec_poTrim_k1, spec_l1Own]
    rw [guardO_bind_pos (by omega)]
    rfl
  have s2 : impl_polynomial c = (impl_isPolynomial d).bind fun v2 => if (!v2) = true then some ([], false) else some (d, true) := by
    unfold impl_polynomial
    rw [l2]
    simp only [Option.bind_some, impl_polynomial_k1, hcl]
  rw [s1, s2]
  by_cases hn : d = []
  · subst hn
    refine ⟨([], true), by simp, ?_, ?_⟩
    · simp [spec_poGood, spec_l1All_eq [] _ _ (by simp)]
    · simp [impl_isPolynomial, hcf]
  · obtain ⟨x, h1, h2⟩ := hlast hn
    have h0 : ((d.length : Int) == 0) = false := by
      have : 0 < d.length := List.length_pos_iff.2 hn
      simp; omega
    have hx : (x != 0) = true := by simpa using h2
    cases ha : d.all (inB (-1000000) 1000000) with
    | true =>
      refine ⟨(d, true), by simpa using (by omega : d.length ≤ 9), ?_, ?_⟩
      · simp only [spec_poGood, h9, decide_false, Bool.false_eq_true, if_false, spec_l1All_eq _ _ _ hlen, h0, h1, ha, Option.bind_some, hx, Bool.not_true]
      · simp only [impl_isPolynomial, h9', decide_true, if_true, hcf, List.any_eq_not_all_not, Bool.not_not, ha, h0, h1, Option.bind_some, hx, Bool.not_true, Bool.false_eq_true, if_false]
        simp
    | false =>
      refine ⟨([], false), by simp, ?_, ?_⟩
      · simp only [spec_poGood, h9, decide_false, Bool.false_eq_true, if_false, spec_l1All_eq _ _ _ hlen, ha, Option.bind_some, Bool.not_false, if_true]
      · simp only [impl_isPolynomial, h9', decide_true, if_true, hcf, List.any_eq_not_all_not, Bool.not_not, ha, Option.bind_some, Bool.not_false, Bool.not_true, Bool.false_eq_true, if_false]
theorem spec_zeBack_eq (xs : List Int) (hl : xs.length ≤ 1048576) : spec_zeBack xs = some xs.reverse := by
  have hx := loop_idx (body := spec_zeBack_b1 xs) xs.length (fun k => (tab k (fun p => xs.getD (xs.length - 1 - p) default), ((xs.length : Int) - 1 - k))) xs.reverse (fun k hk => by
    have e1 : ((xs.length : Int) - 1 - k) = ((xs.length - 1 - k : Nat) : Int) := by omega
    have e2 : idxO xs (((xs.length - 1 - k : Nat)) : Int) = some (xs.getD (xs.length - 1 - k) default) := by rw [idxO_nat, getD_lt (by omega)]
    simp only [spec_zeBack_b1, e1, show (((xs.length - 1 - k : Nat) : Int) ≥ 0) from by omega, decide_true, if_true, e2, Option.bind_some]
    rw [guardO_bind_pos (by rw [tab_len]; simp; omega), tab_succ k (fun p => xs.getD (xs.length - 1 - p) default), w64_id (by omega) (by omega)]
    congr 3
    show ((xs.length - 1 - k : Nat) : Int) - 1 = (xs.length : Int) - 1 - ((k + 1 : Nat) : Int)
    omega) (by
    simp only [spec_zeBack_b1]
    have : ¬ ((xs.length : Int) - 1 - (xs.length : Nat) ≥ 0) := by omega
    simp only [this, decide_false, Bool.false_eq_true, if_false]
    congr 2
    apply List.ext_getElem?
    intro p
    by_cases hp : p < xs.length
    · rw [tab_get hp, List.getElem?_reverse hp, getD_lt (by omega)]
    · rw [List.getElem?_eq_none (by rw [tab_len]; omega), List.getElem?_eq_none (by simp; omega)])
  unfold spec_zeBack
  rw [w64_id (by omega) (by omega)]
  have : ((xs.length : Int) - 1) = (xs.length : Int) - 1 - ((0 : Nat) : Int) := by omega
  rw [this]
  have hx' : loopO (spec_zeBack_b1 xs) ([], (xs.length : Int) - 1 - ((0 : Nat) : Int)) = some xs.reverse := hx
  rw [hx']
  rfl
theorem both_ZetaDenominator (g : List (List Int)) (hg : sized g) : ∃ r, r.1.length ≤ 9 ∧ spec_ZetaDenominator g = some r ∧ impl_ZetaDenominator g = some r := by
  unfold spec_ZetaDenominator impl_ZetaDenominator
  rw [spec_grGood_eq g hg, impl_isGraph_eq g hg]
  cases h : isGraph g
  · exact ⟨([], false), by simp, rfl, rfl⟩
  · obtain ⟨n, G, h1, h2, rfl, _⟩ := isGraph_mat h
    have hlen : (tab (n + 1) (chN n G n).1).length ≤ 9 := by rw [tab_len]; omega
    obtain ⟨r, e0, e1, e2⟩ := both_poly2 (tab (n + 1) (chN n G n).1).reverse (by simpa using hlen)
    refine ⟨r, e0, ?_, ?_⟩
    · simp only [Option.bind_some, Bool.not_true, Bool.false_eq_true, if_false, spec_char_eq h1 h2, spec_zeBack_eq _ (by omega : (tab (n + 1) (chN n G n).1).length ≤ 1048576), e1]
    · simp only [Option.bind_some, Bool.not_true, Bool.false_eq_true, if_false, impl_char_eq h1 h2, slices_Reverse_int_eq _ (by omega : (tab (n + 1) (chN n G n).1).length ≤ 4611686018427387904), e2]
theorem laws_FnExactZetaDenominator_eq (g : List (List Int)) (hl : g.length ≤ 9223372036854775807) (hr : ∀ row ∈ g, row.length ≤ 9223372036854775807) : laws_FnExactZetaDenominator g = some true := by
  obtain ⟨v, h1, h2⟩ := laws_szIntSS_eq g hl hr
  unfold laws_FnExactZetaDenominator
  rw [h1, Option.bind_some]
  by_cases hv : v < 0
  · simp [hv]
  · have hs := h2 (by omega)
    obtain ⟨⟨r, ok⟩, e0, e1, e2⟩ := both_ZetaDenominator g hs
    obtain ⟨k', g', e3, e4, e5⟩ := laws_markIntSS_eq g hs
    have e0 : r.length ≤ 9 := e0
    have e7 : ¬ (k' < 0) := by omega
    have e8 : ¬ ((1 : Int) + (r.length : Int) < 0) := by omega
    simp only [hv, decide_false, Bool.false_eq_true, if_false, laws_toIntSS_eq g hs, e1, e2, laws_eqIntS_self r (by omega), laws_eqIntSS_self g hs, Option.bind_some, e3, e7,
      laws_markIntS_eq r 1 (by omega) (by omega), laws_heldIntS_eq r.length 1 (by omega) (by omega), beq_self_eq_true, Bool.not_true, Bool.or_self, bne_self_eq_false, e8]
end Go.PV

set_option linter.all false
namespace Go.PV
theorem cmp_le (a b : Int × Int) : decide (cmp a b ≤ 0) = !less b a := by
  unfold cmp less
  by_cases h1 : a.1 * b.2 < b.1 * a.2
  · have : ¬ b.1 * a.2 < a.1 * b.2 := by omega
    simp [h1, this]
  · by_cases h2 : a.1 * b.2 > b.1 * a.2
    · have h3 : b.1 * a.2 < a.1 * b.2 := h2
      simp [h1, h3]
    · have : ¬ b.1 * a.2 < a.1 * b.2 := by omega
      simp [h1, this]
theorem both_IsGrowthBound (g : List (List Int)) (u : List Int) (a b : Int × Int) (hg : sized g) (hu : u.length ≤ 4611686018427387904) : ∃ r, spec_IsGrowthBound g u a b = some r ∧ impl_IsGrowthBound g u a b = some r := by
  unfold spec_IsGrowthBound impl_IsGrowthBound
  rw [spec_gwAsked_eq g u hg hu, impl_isVectorOf_eq g u hg hu, impl_areRats_eq [a, b] (by simp), spec_raGood_eq, spec_raGood_eq]
  simp only [Option.bind_some]
  cases h : asked g u
  · exact ⟨(false, false), by simp, by simp⟩
  · cases h1 : isRat a
    · exact ⟨(false, false), by simp, by simp [h1]⟩
    · cases h2 : isRat b
      · exact ⟨(false, false), by simp, by simp [h1, h2]⟩
      · obtain ⟨n, G, v, p, q, rfl, rfl, c, d⟩ := asked_mat h
        have hr : ∀ i, i < n → isRat (ratN G v n i) = true := fun i hi => ratN_rat q c d hi
        have hb := mn_rat (hr 0 (by omega)) hr n (Nat.le_refl n)
        unfold spec_gwWithin
        rw [spec_gwBounds_eq p q c d, impl_ratioBounds_eq p q c d]
        simp only [Option.bind_some, spec_raCmp_eq a _ (tame_of h1) (tame_of hb.1), spec_raCmp_eq _ b (tame_of hb.2) (tame_of h2), impl_less_eq _ a (tame_of hb.1) (tame_of h1), impl_less_eq b _ (tame_of h2) (tame_of hb.2), cmp_le]
        refine ⟨(!less (mnN (ratN G v n) n) a && !less b (mxN (ratN G v n) n), true), ?_, ?_⟩
        · cases less (mnN (ratN G v n) n) a <;> simp
        · cases less (mnN (ratN G v n) n) a <;> simp [h1, h2]
theorem laws_FnExactIsGrowthBound_eq (g : List (List Int)) (u : List Int) (a b : Int × Int) (hl : g.length ≤ 9223372036854775807) (hr : ∀ row ∈ g, row.length ≤ 9223372036854775807) : laws_FnExactIsGrowthBound g u a b = some true := by
  obtain ⟨v, h1, h2⟩ := laws_szIntSS_eq g hl hr
  unfold laws_FnExactIsGrowthBound
  by_cases hu : (u.length : Int) > 1048576
  · simp [hu]
  · simp only [hu, decide_false, Bool.false_eq_true, if_false]
    rw [h1, Option.bind_some]
    by_cases hv : v < 0
    · simp [hv]
    · have hs := h2 (by omega)
      obtain ⟨r, e1, e2⟩ := both_IsGrowthBound g u a b hs (by omega)
      simp only [hv, decide_false, Bool.false_eq_true, if_false, laws_toIntSS_eq g hs, laws_toIntS_eq u (by omega), laws_toRat, e1, e2, laws_eqIntSS_self g hs, laws_eqIntS_self u (by omega), Option.bind_some]
      simp
end Go.PV

/-
  Plain laws: vectors of walks, bounds of growth.
  Conditions: none.
-/
set_option linter.all false
namespace Go.PV
theorem isVec_tab {n : Nat} {v : Nat → Int} (h1 : 1 ≤ n) (hn : n ≤ 8) : isVec (tab n v) = true ↔ ∀ j, j < n → 1 ≤ v j ∧ v j ≤ 1000000 := by
  unfold isVec
  rw [tab_len, Bool.and_eq_true, tab_all]
  constructor
  · exact fun h j hj => inB_iff.1 (h.2 j hj)
  · exact fun h => ⟨inB_iff.2 ⟨by omega, by omega⟩, fun j hj => inB_iff.2 (h j hj)⟩
/-- The vector behind k steps. -/
def vk (G : Nat → Nat → Int) (n : Nat) : Nat → Nat → Int
  | 0 => fun _ => 1
  | k + 1 => fun j => dotN (G j) (vk G n k) n + vk G n k j
/-- The last number of steps, up to k, behind which all are vectors. -/
def mxg (G : Nat → Nat → Int) (n : Nat) : Nat → Nat
  | 0 => 0
  | k + 1 => if mxg G n k = k ∧ isVec (tab n (vk G n (k + 1))) = true then k + 1 else mxg G n k
section
variable {n : Nat} {G : Nat → Nat → Int}
theorem mxg_le : ∀ k, mxg G n k ≤ k
  | 0 => Nat.le_refl _
  | k + 1 => by
    have := mxg_le k
    unfold mxg; split <;> omega
theorem mxg_good (h1 : 1 ≤ n) (hn : n ≤ 8) : ∀ k i, i ≤ mxg G n k → isVec (tab n (vk G n i)) = true
  | 0, i, h => by
    have : i = 0 := by simpa [mxg] using h
    subst this
    exact (isVec_tab h1 hn).2 fun j _ => by simp [vk]
  | k + 1, i, h => by
    unfold mxg at h
    split at h
    · rename_i hc
      by_cases hi : i = k + 1
      · subst hi; exact hc.2
      · exact mxg_good h1 hn k i (by omega)
    · exact mxg_good h1 hn k i h
theorem mxg_stop : ∀ k, mxg G n k = k ∨ isVec (tab n (vk G n (mxg G n k + 1))) = false
  | 0 => .inl rfl
  | k + 1 => by
    unfold mxg
    split
    · exact .inl rfl
    · rename_i hc
      right
      rcases mxg_stop k with h | h
      · rw [h]
        cases hv : isVec (tab n (vk G n (k + 1))) with
        | false => rfl
        | true => exact absurd ⟨h, hv⟩ hc
      · exact h
theorem mxg_mono (h1 : 1 ≤ n) (hn : n ≤ 8) {k K : Nat} (hk : k ≤ K) : mxg G n k = min k (mxg G n K) := by
  have a := mxg_le (G := G) (n := n) k
  have b := mxg_good (G := G) h1 hn K
  rcases mxg_stop (G := G) (n := n) k with h | h
  · rcases mxg_stop (G := G) (n := n) K with h2 | h2
    · omega
    · have : ¬ mxg G n K + 1 ≤ mxg G n k := fun hle => by
        have := mxg_good (G := G) h1 hn k _ hle
        rw [h2] at this; cases this
      omega
  · have h3 : ¬ mxg G n k + 1 ≤ mxg G n K := fun hle => by
      have := b _ hle
      rw [h] at this; cases this
    rcases mxg_stop (G := G) (n := n) K with h2 | h2
    · omega
    · have : ¬ mxg G n K + 1 ≤ mxg G n k := fun hle => by
        have := mxg_good (G := G) h1 hn k _ hle
        rw [h2] at this; cases this
      omega
theorem vk_step (hn : n ≤ 8) (hG : ∀ i j, i < n → j < n → 0 ≤ G i j ∧ G i j ≤ 9) {v : Nat → Int} (hv : ∀ j, j < n → 1 ≤ v j ∧ v j ≤ 1000000) {j : Nat} (hj : j < n) : w64 (dotN (G j) v n + v j) = dotN (G j) v n + v j ∧ w64 (v j + dotN (G j) v n) = dotN (G j) v n + v j := by
  have b := dotN_bound n (Nat.le_refl n) (fun i hi => hG j i hj hi) hv
  have c := hv j hj
  exact ⟨w64_id (by omega) (by omega), by rw [w64_id (by omega) (by omega)]; omega⟩
theorem impl_wv2 (hn : n ≤ 8) (hG : ∀ i j, i < n → j < n → 0 ≤ G i j ∧ G i j ≤ 9) {v : Nat → Int} (hv : ∀ j, j < n → 1 ≤ v j ∧ v j ≤ 1000000) (l : List (List Int)) (m : Int) :
    loopO (impl_walkVectors_b2 (tab n v, l, m) (tab n fun j => dotN (G j) v n)) (tab n fun j => dotN (G j) v n, 0) = some (tab n fun j => dotN (G j) v n + v j) := by
  have h := loop_idx (body := impl_walkVectors_b2 (tab n v, l, m) (tab n fun j => dotN (G j) v n)) n (fun i => (tab n (fun j => if j < i then dotN (G j) v n + v j else dotN (G j) v n), (i : Int))) (tab n fun j => dotN (G j) v n + v j) (fun i hi => by
    simp only [impl_walkVectors_b2, tab_len, idxO_tab hi, Option.bind_some, show ((i : Int) < (n : Int)) from by omega, decide_true, if_true, Nat.lt_irrefl, if_false, w64_nat (show i < 9223372036854775807 by omega), Int.toNat_natCast, (vk_step hn hG hv hi).1, tab_set hi]
    congr 3
    refine tab_ext fun k hk => ?_
    by_cases h : k = i
    · subst h; simp
    · simp only [h, if_false]
      by_cases h2 : k < i
      · rw [if_pos h2, if_pos (by omega)]
      · rw [if_neg h2, if_neg (by omega)]) (by
    simp only [impl_walkVectors_b2, tab_len, Int.lt_irrefl, decide_false, Bool.false_eq_true, if_false]
    congr 2
    exact tab_ext fun k hk => by rw [if_pos hk])
  simpa using h
theorem spec_wv2 (hn : n ≤ 8) (hG : ∀ i j, i < n → j < n → 0 ≤ G i j ∧ G i j ≤ 9) {v : Nat → Int} (hv : ∀ j, j < n → 1 ≤ v j ∧ v j ≤ 1000000) :
    loopO (spec_gwWalks_b2 (tab n fun j => dotN (G j) v n)) (tab n v, 0) = some (tab n fun j => dotN (G j) v n + v j) := by
  have h := loop_idx (body := spec_gwWalks_b2 (tab n fun j => dotN (G j) v n)) n (fun i => (tab n (fun j => if j < i then dotN (G j) v n + v j else v j), (i : Int))) (tab n fun j => dotN (G j) v n + v j) (fun i hi => by
    simp only [spec_gwWalks_b2, tab_len, idxO_tab hi, Option.bind_some, show ((i : Int) < (n : Int)) from by omega, decide_true, if_true, Nat.lt_irrefl, if_false, w64_nat (show i < 9223372036854775807 by omega), Int.toNat_natCast, (vk_step hn hG hv hi).2, tab_set hi]
    congr 3
    refine tab_ext fun k hk => ?_
    by_cases h : k = i
    · subst h; simp
    · simp only [h, if_false]
      by_cases h2 : k < i
      · rw [if_pos h2, if_pos (by omega)]
      · rw [if_neg h2, if_neg (by omega)]) (by
    simp only [spec_gwWalks_b2, tab_len, Int.lt_irrefl, decide_false, Bool.false_eq_true, if_false]
    congr 2
    exact tab_ext fun k hk => by rw [if_pos hk])
  simpa using h
theorem impl_walkVectors_eq (h1 : 1 ≤ n) (hn : n ≤ 8) (hG : ∀ i j, i < n → j < n → 0 ≤ G i j ∧ G i j ≤ 9) (K : Nat) (hK : K ≤ 1048576) :
    impl_walkVectors (mat n n G) (K : Int) = some (tab (mxg G n K + 1) fun i => tab n (vk G n i)) := by
  have hle := mxg_le (G := G) (n := n) K
  have hx := loop_idx (body := impl_walkVectors_b1 (mat n n G) (K : Int)) (mxg G n K) (fun i => (tab n (vk G n i), tab (i + 1) (fun i => tab n (vk G n i)), (i : Int))) (tab (mxg G n K + 1) fun i => tab n (vk G n i)) (fun i hi => by
    have hv := (isVec_tab h1 hn).1 (mxg_good (G := G) h1 hn K i (by omega))
    have hv2 := mxg_good (G := G) h1 hn K (i + 1) (by omega)
    have e : (tab n fun j => dotN (G j) (vk G n i) n + vk G n i j) = tab n (vk G n (i + 1)) := rfl
    simp only [impl_walkVectors_b1, show ((i : Int) < (K : Int)) from by omega, decide_true, if_true, impl_times_eq hn hG hv, Option.bind_some, impl_wv2 hn hG hv, e, impl_walkVectors_k3]
    rw [impl_isVector_eq _ (by rw [tab_len]; omega), Option.bind_some, hv2]
    simp only [Bool.not_true, Bool.false_eq_true, if_false]
    rw [guardO_bind_pos (by rw [tab_len]; simp; omega)]
    simp only [impl_walkVectors_k2, w64_nat (show i < 9223372036854775807 by omega), tab_succ (i + 1) (fun i => tab n (vk G n i))]) (by
    rcases mxg_stop (G := G) (n := n) K with h | h
    · have : ¬ (((mxg G n K : Nat) : Int) < (K : Int)) := by omega
      simp only [impl_walkVectors_b1, this, decide_false, Bool.false_eq_true, if_false]
    · by_cases hlt : mxg G n K < K
      · have hv := (isVec_tab h1 hn).1 (mxg_good (G := G) h1 hn K (mxg G n K) (Nat.le_refl _))
        have e : (tab n fun j => dotN (G j) (vk G n (mxg G n K)) n + vk G n (mxg G n K) j) = tab n (vk G n (mxg G n K + 1)) := rfl
        simp only [impl_walkVectors_b1, show (((mxg G n K : Nat) : Int) < (K : Int)) from by omega, decide_true, if_true, impl_times_eq hn hG hv, Option.bind_some, impl_wv2 hn hG hv, e, impl_walkVectors_k3]
        rw [impl_isVector_eq _ (by rw [tab_len]; omega), Option.bind_some, h]
        rfl
      · have : ¬ (((mxg G n K : Nat) : Int) < (K : Int)) := by omega
        simp only [impl_walkVectors_b1, this, decide_false, Bool.false_eq_true, if_false])
  unfold impl_walkVectors
  rw [mat_len, ones_eq n h1 hn, Option.bind_some, ones_tab]
  have hx' : loopO (impl_walkVectors_b1 (mat n n G) (K : Int)) (tab n (fun _ => (1 : Int)), [tab n (fun _ => (1 : Int))], 0) = some (tab (mxg G n K + 1) fun i => tab n (vk G n i)) := hx
  rw [hx']
  rfl
theorem spec_gwWalks_eq (h1 : 1 ≤ n) (hn : n ≤ 8) (hG : ∀ i j, i < n → j < n → 0 ≤ G i j ∧ G i j ≤ 9) (K : Nat) (hK : K ≤ 1048576) :
    spec_gwWalks (mat n n G) (K : Int) = some (if mxg G n K = K then (tab n (vk G n K), true) else ([], false)) := by
  have hle := mxg_le (G := G) (n := n) K
  have hx := loop_idx (body := spec_gwWalks_b1 (mat n n G)) (mxg G n K) (fun i => ((K : Int) - i, tab n (vk G n i))) (if mxg G n K = K then .inr (tab n (vk G n K)) else .inl ([], false)) (fun i hi => by
    have hv := (isVec_tab h1 hn).1 (mxg_good (G := G) h1 hn K i (by omega))
    have hv2 := mxg_good (G := G) h1 hn K (i + 1) (by omega)
    have e : (tab n fun j => dotN (G j) (vk G n i) n + vk G n i j) = tab n (vk G n (i + 1)) := rfl
    simp only [spec_gwWalks_b1, show ((K : Int) - (i : Int) > 0) from by omega, decide_true, if_true, spec_gwTimes_eq hn hG hv, Option.bind_some, spec_wv2 hn hG hv, e, spec_gwWalks_k4]
    rw [spec_gwVector_eq _ (by rw [tab_len]; omega), Option.bind_some, hv2]
    simp only [Bool.not_true, Bool.false_eq_true, if_false, spec_gwWalks_k3]
    rw [w64_id (by omega) (by omega)]
    congr 3
    omega) (by
    rcases mxg_stop (G := G) (n := n) K with h | h
    · rw [if_pos h]
      have : ¬ ((K : Int) - (K : Int) > 0) := by omega
      simp only [spec_gwWalks_b1, h, this, decide_false, Bool.false_eq_true, if_false]
    · by_cases hlt : mxg G n K < K
      · have hv := (isVec_tab h1 hn).1 (mxg_good (G := G) h1 hn K (mxg G n K) (Nat.le_refl _))
        have e : (tab n fun j => dotN (G j) (vk G n (mxg G n K)) n + vk G n (mxg G n K) j) = tab n (vk G n (mxg G n K + 1)) := rfl
        rw [if_neg (by omega)]
        simp only [spec_gwWalks_b1, show ((K : Int) - ((mxg G n K : Nat) : Int) > 0) from by omega, decide_true, if_true, spec_gwTimes_eq hn hG hv, Option.bind_some, spec_wv2 hn hG hv, e, spec_gwWalks_k4]
        rw [spec_gwVector_eq _ (by rw [tab_len]; omega), Option.bind_some, h]
        rfl
      · have hKK : mxg G n K = K := by omega
        rw [if_pos hKK]
        have : ¬ ((K : Int) - (K : Int) > 0) := by omega
        simp only [spec_gwWalks_b1, hKK, this, decide_false, Bool.false_eq_true, if_false])
  unfold spec_gwWalks
  rw [mat_len, guardO_bind_pos (by omega), Int.toNat_natCast, spec_ones (body := spec_gwWalks_b3 (mat n n G)) (mat n n G) n (by omega) (fun x => by simp only [spec_gwWalks_b3, mat_len]), Option.bind_some, ones_tab]
  unfold spec_gwWalks_k1
  have hx' : loopO (spec_gwWalks_b1 (mat n n G)) ((K : Int), tab n (fun _ => (1 : Int))) = some (if mxg G n K = K then .inr (tab n (vk G n K)) else .inl ([], false)) := by
    have e : ((K : Int) - ((0 : Nat) : Int)) = (K : Int) := by omega
    simp only [e] at hx
    exact hx
  rw [hx']
  by_cases h : mxg G n K = K
  · rw [if_pos h, if_pos h]; rfl
  · rw [if_neg h, if_neg h]; rfl
theorem spec_gwBest_eq (h1 : 1 ≤ n) (hn : n ≤ 8) (hG : ∀ i j, i < n → j < n → 0 ≤ G i j ∧ G i j ≤ 9) :
    spec_gwBest (mat n n G) = some (mnN (ratN G (vk G n (mxg G n 20)) n) n, mxN (ratN G (vk G n (mxg G n 20)) n) n, ((mxg G n 20 : Nat) : Int)) := by
  have hle := mxg_le (G := G) (n := n) 20
  have hx := loop_idx (body := spec_gwBest_b1 (mat n n G)) (mxg G n 20) (fun i => ((i : Int), tab n (vk G n i))) (((mxg G n 20 : Nat) : Int), tab n (vk G n (mxg G n 20))) (fun i hi => by
    have hm := mxg_mono (G := G) h1 hn (show i + 1 ≤ 20 by omega)
    simp only [spec_gwBest_b1, show ((i : Int) < 20) from by omega, decide_true, if_true, w64_nat (show i < 9223372036854775807 by omega), spec_gwWalks_eq h1 hn hG (i + 1) (by omega), Option.bind_some]
    rw [if_pos (show mxg G n (i + 1) = i + 1 by omega)]
    rfl) (by
    by_cases hlt : mxg G n 20 < 20
    · have hm := mxg_mono (G := G) h1 hn (show mxg G n 20 + 1 ≤ 20 by omega)
      simp only [spec_gwBest_b1, show (((mxg G n 20 : Nat) : Int) < 20) from by omega, decide_true, if_true, w64_nat (show mxg G n 20 < 9223372036854775807 by omega), spec_gwWalks_eq h1 hn hG (mxg G n 20 + 1) (by omega), Option.bind_some]
      rw [if_neg (show ¬ mxg G n (mxg G n 20 + 1) = mxg G n 20 + 1 by omega)]
      rfl
    · have : ¬ (((mxg G n 20 : Nat) : Int) < 20) := by omega
      simp only [spec_gwBest_b1, this, decide_false, Bool.false_eq_true, if_false])
  unfold spec_gwBest
  have h0 := spec_gwWalks_eq h1 hn hG 0 (by omega)
  rw [if_pos (show mxg G n 0 = 0 from rfl)] at h0
  have h0' : spec_gwWalks (mat n n G) 0 = some (tab n (vk G n 0), true) := h0
  rw [h0', Option.bind_some]
  have hx' : loopO (spec_gwBest_b1 (mat n n G)) (0, tab n (vk G n 0)) = some (((mxg G n 20 : Nat) : Int), tab n (vk G n (mxg G n 20))) := hx
  rw [hx', Option.bind_some]
  have hv := (isVec_tab h1 hn).1 (mxg_good (G := G) h1 hn 20 (mxg G n 20) (Nat.le_refl _))
  simp only [spec_gwBest_k1, spec_gwBounds_eq h1 hn hG hv, Option.bind_some]
/-- What both tell of the best growth of a graph. -/
def bestT (G : Nat → Nat → Int) (n : Nat) : (Int × Int) × (Int × Int) × Int × Bool := (mnN (ratN G (vk G n (mxg G n 20)) n) n, mxN (ratN G (vk G n (mxg G n 20)) n) n, ((mxg G n 20 : Nat) : Int), true)
theorem impl_BestGrowth_mat (h1 : 1 ≤ n) (hn : n ≤ 8) (hG : ∀ i j, i < n → j < n → 0 ≤ G i j ∧ G i j ≤ 9) (hgr : impl_isGraph (mat n n G) = some true) : impl_BestGrowth (mat n n G) = some (bestT G n) := by
  have hle := mxg_le (G := G) (n := n) 20
  have hv := (isVec_tab h1 hn).1 (mxg_good (G := G) h1 hn 20 (mxg G n 20) (Nat.le_refl _))
  unfold impl_BestGrowth
  have e0 : impl_walkVectors (mat n n G) 20 = _ := impl_walkVectors_eq h1 hn hG 20 (by omega)
  have e1 : w64 ((((tab (mxg G n 20 + 1) fun i => tab n (vk G n i)).length : Nat) : Int) - 1) = ((mxg G n 20 : Nat) : Int) := by rw [tab_len, w64_id (by omega) (by omega)]; omega
  rw [hgr, Option.bind_some]
  simp only [Bool.not_true, Bool.false_eq_true, if_false, e0, Option.bind_some, e1, idxO_tab (show mxg G n 20 < mxg G n 20 + 1 by omega), impl_ratioBounds_eq h1 hn hG hv]
  rfl
end
theorem both_BestGrowth (g : List (List Int)) (hg : sized g) : ∃ r, spec_BestGrowth g = some r ∧ impl_BestGrowth g = some r := by
  have e1 := spec_grGood_eq g hg
  have e2 := impl_isGraph_eq g hg
  cases h : isGraph g
  · rw [h] at e1 e2
    exact ⟨((0, 0), (0, 0), 0, false), by simp [spec_BestGrowth, e1], by simp [impl_BestGrowth, e2]⟩
  · rw [h] at e1 e2
    obtain ⟨n, G, h1, h2, rfl, hG⟩ := isGraph_mat h
    exact ⟨bestT G n, by simp only [spec_BestGrowth, e1, Option.bind_some, Bool.not_true, Bool.false_eq_true, if_false, spec_gwBest_eq h1 h2 hG]; rfl, impl_BestGrowth_mat h1 h2 hG e2⟩
theorem laws_FnExactBestGrowth_eq (g : List (List Int)) (hl : g.length ≤ 9223372036854775807) (hr : ∀ row ∈ g, row.length ≤ 9223372036854775807) : laws_FnExactBestGrowth g = some true := by
  obtain ⟨v, h1, h2⟩ := laws_szIntSS_eq g hl hr
  unfold laws_FnExactBestGrowth
  rw [h1, Option.bind_some]
  by_cases hv : v < 0
  · simp [hv]
  · have hs := h2 (by omega)
    obtain ⟨r, e1, e2⟩ := both_BestGrowth g hs
    simp only [hv, decide_false, Bool.false_eq_true, if_false, laws_toIntSS_eq g hs, e1, e2, laws_eqRat_self, laws_eqIntSS_self g hs, Option.bind_some]
    simp
theorem both_GrowthBounds (g : List (List Int)) (k : Int) (hg : sized g) : ∃ r, spec_GrowthBounds g k = some r ∧ impl_GrowthBounds g k = some r := by
  have e1 := spec_grGood_eq g hg
  have e2 := impl_isGraph_eq g hg
  unfold spec_GrowthBounds impl_GrowthBounds impl_WalkVector
  rw [e1, e2]
  cases h : isGraph g
  · exact ⟨((0, 0), (0, 0), false), by simp, by simp⟩
  · cases hk : inB 0 20 k
    · exact ⟨((0, 0), (0, 0), false), by simp [spec_gwSteps, spec_l1In_eq, hk], by simp [impl_within_eq, hk]⟩
    · obtain ⟨n, G, h1, h2, rfl, hG⟩ := isGraph_mat h
      have hk' := inB_iff.1 hk
      obtain ⟨K, rfl⟩ := Int.eq_ofNat_of_zero_le hk'.1
      have hK : K ≤ 20 := by omega
      have hle := mxg_le (G := G) (n := n) K
      rw [h] at e2
      simp only [Option.bind_some, Bool.not_true, Bool.false_eq_true, if_false, spec_gwSteps, spec_l1In_eq, impl_within_eq, hk]
      have w1 := spec_gwWalks_eq h1 h2 hG K (by omega)
      have w2 := impl_walkVectors_eq h1 h2 hG K (by omega)
      simp only [w1, w2, Option.bind_some, tab_len]
      by_cases hm : mxg G n K = K
      · have hv := (isVec_tab h1 h2).1 (mxg_good (G := G) h1 h2 K K (by omega))
        have hnle : ¬ (((mxg G n K + 1 : Nat) : Int) ≤ (K : Int)) := by omega
        have hask : asked (mat n n G) (tab n (vk G n K)) = true := by
          simp only [asked, Bool.and_eq_true, beq_iff_eq, tab_len, mat_len, and_true]
          exact ⟨h, (isVec_tab h1 h2).2 hv⟩
        refine ⟨(mnN (ratN G (vk G n K) n) n, mxN (ratN G (vk G n K) n) n, true), ?_, ?_⟩
        · simp only [hm, if_true, spec_gwBounds_eq h1 h2 hG hv, Option.bind_some, Bool.not_true, Bool.false_eq_true, if_false]
        · simp only [hnle, decide_false, Bool.false_eq_true, if_false, idxO_tab (show K < mxg G n K + 1 by omega), Option.bind_some, Bool.not_true, impl_RatioBounds]
          rw [impl_isVectorOf_eq _ _ hg (by rw [tab_len]; omega), hask, Option.bind_some]
          simp only [Bool.not_true, Bool.false_eq_true, if_false, impl_ratioBounds_eq h1 h2 hG hv, Option.bind_some]
      · have hle2 : (((mxg G n K + 1 : Nat) : Int) ≤ (K : Int)) := by omega
        have hle3 : ((mxg G n K : Nat) : Int) + 1 ≤ (K : Int) := by omega
        exact ⟨((0, 0), (0, 0), false), by simp [hm], by simp [hle3]⟩
theorem laws_FnExactGrowthBounds_eq (g : List (List Int)) (k : Int) (hl : g.length ≤ 9223372036854775807) (hr : ∀ row ∈ g, row.length ≤ 9223372036854775807) : laws_FnExactGrowthBounds g k = some true := by
  obtain ⟨v, h1, h2⟩ := laws_szIntSS_eq g hl hr
  unfold laws_FnExactGrowthBounds
  rw [h1, Option.bind_some]
  by_cases hv : v < 0
  · simp [hv]
  · have hs := h2 (by omega)
    obtain ⟨r, e1, e2⟩ := both_GrowthBounds g k hs
    simp only [hv, decide_false, Bool.false_eq_true, if_false, laws_toIntSS_eq g hs, e1, e2, laws_eqRat_self, laws_eqIntSS_self g hs, Option.bind_some]
    simp
theorem laws_szIntSS_gen (g : List (List Int)) (L : Int) (hL : 0 ≤ L) (hL2 : L ≤ 1048576) (hl : g.length ≤ 9223372036854775807) (hr : ∀ row ∈ g, row.length ≤ 9223372036854775807) : ∃ v, laws_szIntSS g L = some v ∧ (0 ≤ v → sized g ∧ v ≤ L) := by
  unfold laws_szIntSS
  rw [w64_id (by omega) (by omega)]
  by_cases h : L - (g.length : Int) < 0
  · exact ⟨-1, by simp [h], by omega⟩
  · simp only [h, decide_false, Bool.false_eq_true, if_false]
    obtain ⟨y, h1, h2⟩ := loop_run (body := laws_szIntSS_b1 g) (fun x => ∃ k : Nat, x.2 = k ∧ k ≤ g.length ∧ 0 ≤ x.1 ∧ x.1 ≤ L ∧ ∀ row ∈ g.take k, row.length ≤ 1048576) (fun x => g.length - x.2.toNat) (fun y => y = .inl (-1) ∨ ∃ l, y = .inr l ∧ sized g ∧ l ≤ L)
      (fun ⟨l, i⟩ ⟨k, hk, hkn, h3, h4, h5⟩ => by
        simp only at hk h3 h4
        subst hk
        by_cases hlt : k < g.length
        · have hrow := hr g[k] (List.getElem_mem hlt)
          simp only [laws_szIntSS_b1, idxO_lt hlt, Option.bind_some, show ((k : Int) < (g.length : Int)) from by omega, decide_true, if_true, laws_szIntS_eq _ l h3 (by omega) hrow]
          by_cases hn : l - (g[k].length : Int) < 0
          · right; exact ⟨_, by simp [hn], .inl rfl⟩
          · left
            refine ⟨(l - g[k].length, ((k + 1 : Nat) : Int)), by simp [hn, w64_nat (show k < 9223372036854775807 by omega)], ⟨k + 1, rfl, hlt, by simp only []; omega, by simp only []; omega, ?_⟩, by simp only [Int.toNat_natCast]; omega⟩
            intro row hrow'
            rw [List.take_add_one, List.getElem?_eq_getElem hlt] at hrow'
            rcases List.mem_append.1 hrow' with h6 | h6
            · exact h5 row h6
            · simp at h6; subst h6; omega
        · right
          refine ⟨.inr l, by simp [laws_szIntSS_b1, show ¬ ((k : Int) < (g.length : Int)) by omega], .inr ⟨l, rfl, ⟨by omega, ?_⟩, h4⟩⟩
          rwa [List.take_of_length_le (by omega)] at h5)
      (L - (g.length : Int), 0) ⟨0, rfl, by omega, by simp only []; omega, by simp only []; omega, by simp⟩
    rw [h1]
    rcases h2 with rfl | ⟨l, rfl, h3⟩
    · exact ⟨-1, rfl, by omega⟩
    · exact ⟨l, rfl, fun _ => h3⟩

theorem both_GrowsFaster (g h : List (List Int)) (hg : sized g) (hh : sized h) : ∃ r, spec_GrowsFaster g h = some r ∧ impl_GrowsFaster g h = some r := by
  have e1 := spec_grGood_eq g hg
  have e2 := impl_isGraph_eq g hg
  have e3 := spec_grGood_eq h hh
  have e4 := impl_isGraph_eq h hh
  have bad : ∀ x : List (List Int), impl_isGraph x = some false → impl_BestGrowth x = some ((0, 0), (0, 0), 0, false) := fun x hx => by simp [impl_BestGrowth, hx]
  obtain ⟨r1, a1, a2⟩ := both_BestGrowth g hg
  obtain ⟨r2, b1, b2⟩ := both_BestGrowth h hh
  cases hG : isGraph g
  · rw [hG] at e1 e2
    exact ⟨(false, false), by simp [spec_GrowsFaster, e1], by simp [impl_GrowsFaster, bad g e2, b2]⟩
  · cases hH : isGraph h
    · rw [hG] at e1; rw [hH] at e3 e4
      exact ⟨(false, false), by simp [spec_GrowsFaster, e1, e3], by simp [impl_GrowsFaster, a2, bad h e4]⟩
    · rw [hG] at e1 e2
      rw [hH] at e3 e4
      obtain ⟨n, G, h1, h2, rfl, h3⟩ := isGraph_mat hG
      obtain ⟨m, H, k1, k2, rfl, k3⟩ := isGraph_mat hH
      have hv := (isVec_tab h1 h2).1 (mxg_good (G := G) h1 h2 20 (mxg G n 20) (Nat.le_refl _))
      have hw := (isVec_tab k1 k2).1 (mxg_good (G := H) k1 k2 20 (mxg H m 20) (Nat.le_refl _))
      have hr := mn_rat (ratN_rat h2 h3 hv (i := 0) (by omega)) (fun i hi => ratN_rat h2 h3 hv hi) n (Nat.le_refl n)
      have hs := mn_rat (ratN_rat k2 k3 hw (i := 0) (by omega)) (fun i hi => ratN_rat k2 k3 hw hi) m (Nat.le_refl m)
      have i1 := impl_BestGrowth_mat h1 h2 h3 e2
      have i2 := impl_BestGrowth_mat k1 k2 k3 e4
      have s1 := spec_gwBest_eq h1 h2 h3
      have s2 := spec_gwBest_eq k1 k2 k3
      refine ⟨(less (mxN (ratN H (vk H m (mxg H m 20)) m) m) (mnN (ratN G (vk G n (mxg G n 20)) n) n), true), ?_, ?_⟩
      · simp only [spec_GrowsFaster, e1, e3, Option.bind_some, Bool.not_true, Bool.false_eq_true, if_false, s1, s2]
        rw [spec_raCmp_eq _ _ (tame_of hr.1) (tame_of hs.2), Option.bind_some]
        have hc := cmp_le (mnN (ratN G (vk G n (mxg G n 20)) n) n) (mxN (ratN H (vk H m (mxg H m 20)) m) m)
        generalize cmp (mnN (ratN G (vk G n (mxg G n 20)) n) n) (mxN (ratN H (vk H m (mxg H m 20)) m) m) = c at hc
        generalize less (mxN (ratN H (vk H m (mxg H m 20)) m) m) (mnN (ratN G (vk G n (mxg G n 20)) n) n) = d at hc
        congr 2
        by_cases h0 : c ≤ 0
        · have : ¬ c > 0 := by omega
          simp [h0] at hc
          simp [this, hc]
        · have : c > 0 := by omega
          simp [h0] at hc
          simp [this, hc]
      · simp only [impl_GrowsFaster, i1, i2, bestT, Option.bind_some, Bool.not_true, Bool.or_self, Bool.false_eq_true, if_false]
        rw [impl_less_eq _ _ (tame_of hs.2) (tame_of hr.1)]
        rfl
theorem laws_FnExactGrowsFaster_eq (g h : List (List Int)) (hl : g.length ≤ 9223372036854775807) (hr : ∀ row ∈ g, row.length ≤ 9223372036854775807) (hl' : h.length ≤ 9223372036854775807) (hr' : ∀ row ∈ h, row.length ≤ 9223372036854775807) : laws_FnExactGrowsFaster g h = some true := by
  obtain ⟨v, h1, h2⟩ := laws_szIntSS_gen g 1048576 (by omega) (by omega) hl hr
  unfold laws_FnExactGrowsFaster
  rw [h1, Option.bind_some]
  by_cases hv : v < 0
  · simp [hv]
  · obtain ⟨hs, hv2⟩ := h2 (by omega)
    obtain ⟨u, h3, h4⟩ := laws_szIntSS_gen h v (by omega) (by omega) hl' hr'
    simp only [hv, decide_false, Bool.false_eq_true, if_false, h3, Option.bind_some]
    by_cases hu : u < 0
    · simp [hu]
    · obtain ⟨hs', _⟩ := h4 (by omega)
      obtain ⟨r, e1, e2⟩ := both_GrowsFaster g h hs hs'
      simp only [hu, decide_false, Bool.false_eq_true, if_false, laws_toIntSS_eq g hs, laws_toIntSS_eq h hs', e1, e2, laws_eqIntSS_self g hs, laws_eqIntSS_self h hs', Option.bind_some]
      simp
end Go.PV
