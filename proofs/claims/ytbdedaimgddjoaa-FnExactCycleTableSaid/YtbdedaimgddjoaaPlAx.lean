/-
  Plain laws of what the functions answer.
  Conditions: none.
-/
import Derived.Test.YtbdedaimgddjoaaPvCx
import Derived.Test.YtbdedaimgddjoaaDf
set_option linter.all false
/-
  Plain laws: bounds, lists of numbers, vectors.
  Conditions: none.
-/
namespace Go.PV
def inB (a b n : Int) : Bool := decide (a ≤ n) && decide (n ≤ b)
theorem inB_iff {a b n : Int} : inB a b n = true ↔ a ≤ n ∧ n ≤ b := by simp [inB]
theorem spec_l1In_eq (v a b : Int) : spec_l1In v a b = some (inB a b v) := rfl
theorem impl_within_eq (v a b : Int) : impl_within v a b = some (inB a b v) := rfl
theorem spec_l1All_eq (xs : List Int) (a b : Int) (hl : xs.length ≤ 4611686018427387904) : spec_l1All xs a b = some (xs.all (inB a b)) := by
  have h := loop_any (xs := xs) (body := spec_l1All_b1 xs a b) (fun x => !inB a b x) (fun i => (i : Int)) (.inl false) (.inr ()) (fun i x hx => by
    have hi := getElem?_lt hx
    simp only [spec_l1All_b1, idxO_nat, hx, spec_l1In_eq, Option.bind_some, w64_nat (show i < 9223372036854775807 by omega), show ((i : Int) < (xs.length : Int)) from by omega, decide_true, if_true]
    cases inB a b x <;> rfl) (by simp [spec_l1All_b1])
  unfold spec_l1All
  rw [show (0 : Int) = ((0 : Nat) : Int) from rfl, h, List.any_eq_not_all_not]
  simp only [Bool.not_not]
  cases xs.all (inB a b) <;> rfl
def isVec (xs : List Int) : Bool := inB 1 8 xs.length && xs.all (inB 1 1000000)
theorem spec_gwVector_eq (xs : List Int) (hl : xs.length ≤ 4611686018427387904) : spec_gwVector xs = some (isVec xs) := by
  simp only [spec_gwVector, spec_l1In_eq, spec_l1All_eq xs _ _ hl, Option.bind_some, isVec]
  cases inB 1 8 xs.length <;> rfl
theorem spec_IsVector_eq (xs : List Int) (hl : xs.length ≤ 4611686018427387904) : spec_IsVector xs = some (isVec xs) := by
  simp only [spec_IsVector, spec_gwVector_eq xs hl, Option.bind_some]
theorem slices_IndexFunc_Lint_int_eq (xs : List Int) (f : Int → Option Bool) (p : Int → Bool) (hf : ∀ x, f x = some (p x)) (hl : xs.length ≤ 4611686018427387904) :
    slices_IndexFunc_Lint_int xs f = some (match xs.findIdx? p with | some i => (i : Int) | none => -1) := by
  have h := loop_first (xs := xs) (body := slices_IndexFunc_Lint_int_b1 xs f) p (fun i => (i : Int)) (fun i => .inl (i : Int)) (.inr ()) (fun i x hx => by
    have hi := getElem?_lt hx
    simp only [slices_IndexFunc_Lint_int_b1, idxO_nat, hx, hf, Option.bind_some, w64_nat (show i < 9223372036854775807 by omega), show ((i : Int) < (xs.length : Int)) from by omega, decide_true, if_true]
    cases p x <;> rfl) (by simp [slices_IndexFunc_Lint_int_b1])
  unfold slices_IndexFunc_Lint_int
  rw [show (0 : Int) = ((0 : Nat) : Int) from rfl, h]
  cases xs.findIdx? p <;> rfl
theorem slices_ContainsFunc_Lint_int_eq (xs : List Int) (f : Int → Option Bool) (p : Int → Bool) (hf : ∀ x, f x = some (p x)) (hl : xs.length ≤ 4611686018427387904) : slices_ContainsFunc_Lint_int xs f = some (xs.any p) := by
  simp only [slices_ContainsFunc_Lint_int, slices_IndexFunc_Lint_int_eq xs f p hf hl, Option.bind_some]
  cases h : xs.findIdx? p with
  | none =>
    have hn := List.findIdx?_eq_none_iff.1 h
    have : xs.any p = false := by simpa using hn
    simp [this]
  | some m =>
    obtain ⟨hm, hp, _⟩ := List.findIdx?_eq_some_iff_getElem.1 h
    have : xs.any p = true := by simp; exact ⟨xs[m], List.getElem_mem hm, hp⟩
    simp [this]
theorem impl_isVector_1_eq (x : Int) : impl_isVector_1 x = some (!inB 1 1000000 x) := by simp [impl_isVector_1, impl_within_eq]
theorem impl_isVector_eq (xs : List Int) (hl : xs.length ≤ 4611686018427387904) : impl_isVector xs = some (isVec xs) := by
  unfold impl_isVector
  rw [impl_within_eq, Option.bind_some, slices_ContainsFunc_Lint_int_eq xs (fun x0 => impl_isVector_1 x0) _ impl_isVector_1_eq hl]
  simp only [Option.bind_some, isVec, List.any_eq_not_all_not, Bool.not_not]
  cases inB 1 8 xs.length <;> rfl
theorem impl_IsVector_eq (xs : List Int) (hl : xs.length ≤ 4611686018427387904) : impl_IsVector xs = some (isVec xs) := by
  simp only [impl_IsVector, impl_isVector_eq xs hl, Option.bind_some]
theorem set_at {α : Type} (xs ys : List α) (i : Nat) (x : α) (hi : xs[i]? = some x) (hl : i < ys.length) : (xs.take i ++ ys.drop i).set i x = xs.take (i + 1) ++ ys.drop (i + 1) := by
  have h1 := getElem?_lt hi
  apply List.ext_getElem?
  intro j
  rw [List.getElem?_set]
  by_cases hj : i = j
  · subst hj
    have hlen : i < (xs.take i ++ ys.drop i).length := by simp; omega
    rw [if_pos rfl, if_pos hlen, List.getElem?_append_left (by simp; omega), List.getElem?_take_of_lt (by omega), hi]
  · rw [if_neg hj, List.getElem?_append, List.getElem?_append]
    simp only [List.length_take, List.getElem?_take, List.getElem?_drop]
    by_cases h2 : j < i
    · simp [show j < i + 1 by omega, h2, show min i xs.length = i by omega, show min (i + 1) xs.length = i + 1 by omega]
    · have h3 : ¬ j < i + 1 := by omega
      simp [h3, h2, show min i xs.length = i by omega, show min (i + 1) xs.length = i + 1 by omega]
      congr 1
      omega
theorem laws_toIntS_eq (xs : List Int) (hl : xs.length ≤ 1099511627776) : laws_toIntS xs = some xs := by
  have h := loop_idx (body := laws_toIntS_b1 xs) xs.length (fun i => (xs.take i ++ (List.replicate xs.length (0 : Int)).drop i, (i : Int))) xs (fun i hi => by
    have hlen : i < (xs.take i ++ (List.replicate xs.length (0 : Int)).drop i).length := by simp; omega
    simp only [laws_toIntS_b1, idxO_lt hi, idxO_lt hlen, Option.bind_some, w64_nat (show i < 9223372036854775807 by omega), show ((i : Int) < (xs.length : Int)) from by omega, decide_true, if_true, Int.toNat_natCast]
    rw [set_at _ _ _ _ (List.getElem?_eq_getElem hi) (by simpa using hi)]) (by simp [laws_toIntS_b1])
  unfold laws_toIntS
  rw [guardO_bind_pos (by omega)]
  simp only [List.take_zero, List.nil_append, List.drop_zero] at h
  rw [Int.toNat_natCast, show (0 : Int) = ((0 : Nat) : Int) from rfl]
  rw [show ((List.replicate xs.length ((0 : Nat) : Int)), ((0 : Nat) : Int)) = (List.replicate xs.length (0 : Int), ((0 : Nat) : Int)) from rfl, h]
  rfl
theorem laws_eqIntS_self (xs : List Int) (hl : xs.length ≤ 4611686018427387904) : laws_eqIntS xs xs = some true := by
  have h := loop_idx (body := laws_eqIntS_b1 xs xs) xs.length (fun i => (i : Int)) (.inr ()) (fun i hi => by
    simp only [laws_eqIntS_b1, idxO_lt hi, Option.bind_some, w64_nat (show i < 9223372036854775807 by omega), show ((i : Int) < (xs.length : Int)) from by omega, decide_true, if_true]
    simp) (by simp [laws_eqIntS_b1])
  unfold laws_eqIntS
  rw [show (0 : Int) = ((0 : Nat) : Int) from rfl, h]
  simp [laws_eqIntS_k1]
theorem laws_FnExactIsVector_eq (xs : List Int) : laws_FnExactIsVector xs = some true := by
  unfold laws_FnExactIsVector
  by_cases h : (xs.length : Int) > 1048576
  · simp [h]
  · have hl : xs.length ≤ 1048576 := by omega
    simp only [h, decide_false, Bool.false_eq_true, if_false, laws_toIntS_eq xs (by omega), spec_IsVector_eq xs (by omega), impl_IsVector_eq xs (by omega), laws_eqIntS_self xs (by omega), Option.bind_some]
    simp
end Go.PV

/-
  Plain laws: lists and tables by their places.
  Conditions: none.
-/
namespace Go.PV
section
variable {α β : Type}
/-- The list of n elements with f i at place i. -/
def tab (n : Nat) (f : Nat → α) : List α := (List.range n).map f
theorem tab_len (n : Nat) (f : Nat → α) : (tab n f).length = n := by simp [tab]
theorem tab_get {n i : Nat} {f : Nat → α} (h : i < n) : (tab n f)[i]? = some (f i) := by simp [tab, h]
theorem tab_get_none {n i : Nat} {f : Nat → α} (h : n ≤ i) : (tab n f)[i]? = none := by simp [tab, h]
theorem idxO_tab {n i : Nat} {f : Nat → α} (h : i < n) : idxO (tab n f) (i : Int) = some (f i) := by rw [idxO_nat, tab_get h]
theorem tab_ext {n : Nat} {f g : Nat → α} (h : ∀ i, i < n → f i = g i) : tab n f = tab n g := List.map_congr_left fun i hi => h i (List.mem_range.1 hi)
theorem tab_set {n i : Nat} {f : Nat → α} {v : α} (h : i < n) : (tab n f).set i v = tab n (fun k => if k = i then v else f k) := by
  apply List.ext_getElem?
  intro j
  rw [List.getElem?_set]
  by_cases hij : i = j
  · subst hij
    rw [if_pos rfl, if_pos (by rw [tab_len]; exact h), tab_get h, if_pos rfl]
  · rw [if_neg hij]
    by_cases hj : j < n
    · rw [tab_get hj, tab_get hj, if_neg (Ne.symm hij)]
    · rw [tab_get_none (by omega), tab_get_none (by omega)]
theorem rep_tab (n : Nat) (v : α) : List.replicate n v = tab n (fun _ => v) := by
  apply List.ext_getElem?
  intro j
  by_cases hj : j < n
  · rw [tab_get hj]; simp [hj]
  · rw [tab_get_none (by omega)]; simp [hj]
theorem tab_succ (n : Nat) (f : Nat → α) : tab n f ++ [f n] = tab (n + 1) f := by simp [tab, List.range_succ]
theorem tab_zero (f : Nat → α) : tab 0 f = [] := rfl
theorem tab_eta [Inhabited α] (xs : List α) : xs = tab xs.length (fun i => xs.getD i default) := by
  apply List.ext_getElem?
  intro j
  by_cases hj : j < xs.length
  · rw [tab_get hj]; simp [hj]
  · rw [tab_get_none (by omega)]; simp; omega
theorem tab_map {n : Nat} {f : Nat → α} (g : α → β) : (tab n f).map g = tab n (fun i => g (f i)) := by simp [tab]
theorem tab_mem {n : Nat} {f : Nat → α} {x : α} : x ∈ tab n f ↔ ∃ i, i < n ∧ f i = x := by simp [tab]
theorem tab_all {n : Nat} {f : Nat → α} {p : α → Bool} : (tab n f).all p = true ↔ ∀ i, i < n → p (f i) = true := by simp [tab]
/-- The table with f i j at row i, place j. -/
def mat (n m : Nat) (f : Nat → Nat → α) : List (List α) := tab n fun i => tab m (f i)
theorem mat_ext {n m : Nat} {f g : Nat → Nat → α} (h : ∀ i j, i < n → j < m → f i j = g i j) : mat n m f = mat n m g := tab_ext fun i hi => tab_ext fun j hj => h i j hi hj
theorem mat_set {n m i j : Nat} {f : Nat → Nat → α} {v : α} (hi : i < n) (hj : j < m) : (mat n m f).set i ((tab m (f i)).set j v) = mat n m (fun a b => if a = i ∧ b = j then v else f a b) := by
  unfold mat
  rw [tab_set hi, tab_set hj]
  refine tab_ext fun a _ => ?_
  by_cases ha : a = i
  · subst ha; simp
  · rw [if_neg ha]; exact tab_ext fun b _ => by simp [ha]
theorem mat_set2 {n m i j : Nat} {f : Nat → Nat → α} {r : Nat → α} {v : α} (hi : i < n) (hj : j < m) : (mat n m f).set i ((tab m r).set j v) = mat n m (fun a b => if a = i then (if b = j then v else r b) else f a b) := by
  unfold mat
  rw [tab_set hi, tab_set hj]
  refine tab_ext fun a _ => ?_
  by_cases ha : a = i
  · subst ha; simp
  · rw [if_neg ha]; exact tab_ext fun b _ => by simp [ha]
theorem mat_len (n m : Nat) (f : Nat → Nat → α) : (mat n m f).length = n := tab_len _ _
theorem idxO_mat {n m i : Nat} {f : Nat → Nat → α} (h : i < n) : idxO (mat n m f) (i : Int) = some (tab m (f i)) := idxO_tab h
/-- A fold over the first n numbers. -/
def foldN (n : Nat) (g : β → Nat → β) (s : β) : β := (List.range n).foldl g s
theorem foldN_succ (n : Nat) (g : β → Nat → β) (s : β) : foldN (n + 1) g s = g (foldN n g s) n := by simp [foldN, List.range_succ]
theorem foldN_zero (g : β → Nat → β) (s : β) : foldN 0 g s = s := rfl
theorem foldN_ext {n : Nat} {g h : β → Nat → β} {s : β} (H : ∀ b i, i < n → g b i = h b i) : foldN n g s = foldN n h s := by
  induction n with
  | zero => rfl
  | succ n ih => rw [foldN_succ, foldN_succ, ih fun b i hi => H b i (by omega), H _ _ (by omega)]
end
end Go.PV

/-
  Plain laws: graphs, numbers of walks.
  Conditions: none.
-/
namespace Go.PV
/-! ### what comes in -/
def sized (g : List (List Int)) : Prop := g.length ≤ 1048576 ∧ ∀ row ∈ g, row.length ≤ 1048576
theorem laws_szIntS_eq (xs : List Int) (l : Int) (h0 : 0 ≤ l) (h1 : l ≤ 1048576) (hl : xs.length ≤ 9223372036854775807) : laws_szIntS xs l = some (if l - xs.length < 0 then -1 else l - xs.length) := by
  unfold laws_szIntS
  rw [w64_id (by omega) (by omega)]
  by_cases h : l - (xs.length : Int) < 0 <;> simp [h]
theorem laws_szIntSS_eq (g : List (List Int)) (hl : g.length ≤ 9223372036854775807) (hr : ∀ row ∈ g, row.length ≤ 9223372036854775807) : ∃ v, laws_szIntSS g 1048576 = some v ∧ (0 ≤ v → sized g) := by
  unfold laws_szIntSS
  rw [w64_id (by omega) (by omega)]
  by_cases h : (1048576 : Int) - (g.length : Int) < 0
  · exact ⟨-1, by simp [h], by omega⟩
  · simp only [h, decide_false, Bool.false_eq_true, if_false]
    obtain ⟨y, h1, h2⟩ := loop_run (body := laws_szIntSS_b1 g) (fun x => ∃ k : Nat, x.2 = k ∧ k ≤ g.length ∧ 0 ≤ x.1 ∧ x.1 ≤ 1048576 ∧ ∀ row ∈ g.take k, row.length ≤ 1048576) (fun x => g.length - x.2.toNat) (fun y => y = .inl (-1) ∨ ∃ l, y = .inr l ∧ sized g)
      (fun ⟨l, i⟩ ⟨k, hk, hkn, h3, h4, h5⟩ => by
        simp only at hk h3 h4
        subst hk
        by_cases hlt : k < g.length
        · have hrow := hr g[k] (List.getElem_mem hlt)
          simp only [laws_szIntSS_b1, idxO_lt hlt, Option.bind_some, show ((k : Int) < (g.length : Int)) from by omega, decide_true, if_true, laws_szIntS_eq _ l h3 h4 hrow]
          by_cases hn : l - (g[k].length : Int) < 0
          · right; exact ⟨_, by simp [hn], .inl rfl⟩
          · left
            refine ⟨(l - g[k].length, ((k + 1 : Nat) : Int)), by simp [hn, w64_nat (show k < 9223372036854775807 by omega)], ⟨k + 1, rfl, hlt, by simp only []; omega, by simp only []; omega, ?_⟩, by simp only [Int.toNat_natCast]; omega⟩
            intro row hrow'
            rw [List.take_add_one, List.getElem?_eq_getElem hlt] at hrow'
            rcases List.mem_append.1 hrow' with h6 | h6
            · exact h5 row h6
            · simp at h6; subst h6; omega
        · right
          refine ⟨.inr l, by simp [laws_szIntSS_b1, show ¬ ((k : Int) < (g.length : Int)) by omega], .inr ⟨l, rfl, by omega, ?_⟩⟩
          rwa [List.take_of_length_le (by omega)] at h5)
      (1048576 - (g.length : Int), 0) ⟨0, rfl, by omega, by simp only []; omega, by simp only []; omega, by simp⟩
    rw [h1]
    rcases h2 with rfl | ⟨l, rfl, h3⟩
    · exact ⟨-1, rfl, by omega⟩
    · exact ⟨l, rfl, fun _ => h3⟩
theorem laws_toIntSS_eq (g : List (List Int)) (h : sized g) : laws_toIntSS g = some g := by
  obtain ⟨hl, hr⟩ := h
  have hx := loop_idx (body := laws_toIntSS_b1 g) g.length (fun i => (g.take i ++ (List.replicate g.length ([] : List Int)).drop i, (i : Int))) g (fun i hi => by
    have hlen : i < (g.take i ++ (List.replicate g.length ([] : List Int)).drop i).length := by simp; omega
    simp only [laws_toIntSS_b1, idxO_lt hi, idxO_lt hlen, Option.bind_some, laws_toIntS_eq g[i] (by have := hr g[i] (List.getElem_mem hi); omega), w64_nat (show i < 9223372036854775807 by omega), show ((i : Int) < (g.length : Int)) from by omega, decide_true, if_true, Int.toNat_natCast]
    rw [set_at _ _ _ _ (List.getElem?_eq_getElem hi) (by simpa using hi)]) (by simp [laws_toIntSS_b1])
  unfold laws_toIntSS
  rw [guardO_bind_pos (by omega)]
  simp only [List.take_zero, List.nil_append, List.drop_zero] at hx
  rw [Int.toNat_natCast, show (0 : Int) = ((0 : Nat) : Int) from rfl, hx]
  rfl
theorem laws_eqIntSS_self (g : List (List Int)) (h : sized g) : laws_eqIntSS g g = some true := by
  obtain ⟨hl, hr⟩ := h
  have h := loop_idx (body := laws_eqIntSS_b1 g g) g.length (fun i => (i : Int)) (.inr ()) (fun i hi => by
    simp only [laws_eqIntSS_b1, idxO_lt hi, Option.bind_some, laws_eqIntS_self g[i] (by have := hr g[i] (List.getElem_mem hi); omega), w64_nat (show i < 9223372036854775807 by omega), show ((i : Int) < (g.length : Int)) from by omega, decide_true, if_true]
    simp) (by simp [laws_eqIntSS_b1])
  unfold laws_eqIntSS
  rw [show (0 : Int) = ((0 : Nat) : Int) from rfl, h]
  simp [laws_eqIntSS_k1]
/-! ### graphs -/
def isGraph (g : List (List Int)) : Bool := inB 1 8 g.length && g.all fun row => (row.length : Int) == g.length && row.all (inB 0 9)
theorem contains_LL (xs : List (List Int)) (f : List Int → Option Bool) (p : List Int → Bool) (hf : ∀ x ∈ xs, f x = some (p x)) (hl : xs.length ≤ 4611686018427387904) : slices_ContainsFunc_LLint_Lint xs f = some (xs.any p) := by
  have h := loop_first (xs := xs) (body := slices_IndexFunc_LLint_Lint_b1 xs f) p (fun i => (i : Int)) (fun i => .inl (i : Int)) (.inr ()) (fun i x hx => by
    have hi := getElem?_lt hx
    simp only [slices_IndexFunc_LLint_Lint_b1, idxO_nat, hx, hf x (List.mem_of_getElem? hx), Option.bind_some, w64_nat (show i < 9223372036854775807 by omega), show ((i : Int) < (xs.length : Int)) from by omega, decide_true, if_true]
    cases p x <;> rfl) (by simp [slices_IndexFunc_LLint_Lint_b1])
  unfold slices_ContainsFunc_LLint_Lint slices_IndexFunc_LLint_Lint
  rw [show (0 : Int) = ((0 : Nat) : Int) from rfl, h]
  cases hx : xs.findIdx? p with
  | none =>
    have hn := List.findIdx?_eq_none_iff.1 hx
    have : xs.any p = false := by simpa using hn
    simp [this, slices_IndexFunc_LLint_Lint_k1]
  | some m =>
    obtain ⟨hm, hp, _⟩ := List.findIdx?_eq_some_iff_getElem.1 hx
    have : xs.any p = true := by simp; exact ⟨xs[m], List.getElem_mem hm, hp⟩
    simp [this]
theorem impl_isGraph_1_1_eq (x : Int) : impl_isGraph_1_1 x = some (!inB 0 9 x) := by simp [impl_isGraph_1_1, impl_within_eq]
theorem impl_isGraph_1_eq (row : List Int) (g : List (List Int)) (hl : row.length ≤ 4611686018427387904) : impl_isGraph_1 row g = some (!((row.length : Int) == g.length && row.all (inB 0 9))) := by
  unfold impl_isGraph_1
  rw [slices_ContainsFunc_Lint_int_eq row (fun x0 => impl_isGraph_1_1 x0) _ impl_isGraph_1_1_eq hl]
  by_cases hc : (row.length : Int) = g.length
  · simp [hc, List.any_eq_not_all_not]
  · simp [hc]
theorem impl_isGraph_eq (g : List (List Int)) (h : sized g) : impl_isGraph g = some (isGraph g) := by
  obtain ⟨hl, hr⟩ := h
  unfold impl_isGraph
  rw [impl_within_eq, Option.bind_some, contains_LL g (fun x0 => impl_isGraph_1 x0 g) _ (fun x hx => impl_isGraph_1_eq x g (by have := hr x hx; omega)) (by omega)]
  simp only [Option.bind_some, isGraph, List.any_eq_not_all_not, Bool.not_not]
  cases inB 1 8 g.length <;> rfl
theorem spec_grGood_eq (g : List (List Int)) (h : sized g) : spec_grGood g = some (isGraph g) := by
  obtain ⟨hl, hr⟩ := h
  have hx := loop_any (xs := g) (body := spec_grGood_b1 g) (fun row => !((row.length : Int) == g.length && row.all (inB 0 9))) (fun i => (i : Int)) (.inl false) (.inr ()) (fun i x hx => by
    have hi := getElem?_lt hx
    have hlx := hr x (List.mem_of_getElem? hx)
    simp only [spec_grGood_b1, idxO_nat, hx, Option.bind_some, spec_l1All_eq x 0 9 (by omega), w64_nat (show i < 9223372036854775807 by omega), show ((i : Int) < (g.length : Int)) from by omega, decide_true, if_true, bne]
    cases (x.length : Int) == g.length
    · rfl
    · cases x.all (inB 0 9) <;> rfl) (by simp [spec_grGood_b1])
  unfold spec_grGood isGraph
  rw [spec_l1In_eq, Option.bind_some, show (0 : Int) = ((0 : Nat) : Int) from rfl, hx, List.any_eq_not_all_not]
  simp only [Bool.not_not]
  cases inB 1 8 g.length
  · rfl
  · simp only [Bool.not_true, Bool.false_eq_true, if_false, Bool.true_and, Option.bind_some]
    cases (g.all fun row => (row.length : Int) == g.length && row.all (inB 0 9)) <;> rfl
/-- A graph as a table. -/
theorem isGraph_mat {g : List (List Int)} (h : isGraph g = true) : ∃ (n : Nat) (G : Nat → Nat → Int), 1 ≤ n ∧ n ≤ 8 ∧ g = mat n n G ∧ ∀ i j, i < n → j < n → 0 ≤ G i j ∧ G i j ≤ 9 := by
  simp only [isGraph, Bool.and_eq_true, inB_iff, List.all_eq_true, beq_iff_eq] at h
  obtain ⟨⟨h1, h2⟩, h3⟩ := h
  refine ⟨g.length, fun i j => (g.getD i []).getD j 0, by omega, by omega, ?_, fun i j hi hj => ?_⟩
  · refine (tab_eta g).trans (tab_ext fun i hi => ?_)
    have hlen := (h3 g[i] (List.getElem_mem hi)).1
    have e : g.getD i default = g[i] := by simp [hi]
    have e2 : g.getD i [] = g[i] := by simp [hi]
    rw [e]
    show g[i] = tab g.length (fun j => (g.getD i []).getD j 0)
    rw [e2]
    refine (tab_eta g[i]).trans ?_
    rw [show g[i].length = g.length by omega]
    rfl
  · have hrow := h3 g[i] (List.getElem_mem hi)
    have e : g.getD i [] = g[i] := by simp [hi]
    have hj' : j < g[i].length := by omega
    have e2 : g[i].getD j 0 = g[i][j] := by simp [hj']
    simp only [e, e2]
    exact hrow.2 _ (List.getElem_mem hj')
end Go.PV

/-
  Plain laws: powers of graphs' tables, numbers of all walks.
  Conditions: none.
-/
namespace Go.PV
def capMul (most acc w a : Int) : Int := if most < w64 (acc + w64 (w * a)) then most else w64 (acc + w64 (w * a))
def powStep (n : Nat) (G : Nat → Nat → Int) (most : Int) (F : Nat → Nat → Int) : Nat → Nat → Int := fun i j => foldN n (fun acc k => capMul most acc (F i k) (G k j)) 0
def idM : Nat → Nat → Int := fun i j => if i = j then 1 else 0
def powN (n : Nat) (G : Nat → Nat → Int) (most : Int) : Nat → Nat → Nat → Int
  | 0 => idM
  | m + 1 => powStep n G most (powN n G most m)
theorem impl_emptyGraph_eq (n : Nat) (hn : n ≤ 1048576) : impl_emptyGraph (n : Int) = some (mat n n fun _ _ => 0) := by
  have hx := loop_idx (body := impl_emptyGraph_b1 (n : Int)) n (fun i => (tab n (fun a => if a < i then tab n (fun _ => (0 : Int)) else []), (i : Int))) (mat n n fun _ _ => 0) (fun i hi => by
    simp only [impl_emptyGraph_b1, Int.toNat_natCast, List.length_replicate, idxO_tab hi, Option.bind_some, w64_nat (show i < 9223372036854775807 by omega), show ((i : Int) < (n : Int)) from by omega, decide_true, if_true]
    rw [tab_set hi, rep_tab]
    congr 3
    refine tab_ext fun a _ => ?_
    by_cases h1 : a = i
    · subst h1; simp
    · by_cases h2 : a < i
      · simp [h1, h2, show a < i + 1 by omega]
      · simp [h1, h2, show ¬ a < i + 1 by omega]) (by
    simp only [impl_emptyGraph_b1, Int.toNat_natCast, List.length_replicate, Int.lt_irrefl, decide_false, Bool.false_eq_true, if_false]
    congr 2
    exact tab_ext fun a ha => by simp [ha])
  unfold impl_emptyGraph
  rw [guardO_bind_pos (by omega), Int.toNat_natCast, rep_tab]
  simp only [Nat.not_lt_zero, if_false] at hx
  rw [show (0 : Int) = ((0 : Nat) : Int) from rfl, hx]
  rfl
section impl
variable {n : Nat} {G : Nat → Nat → Int} {most : Int}
theorem impl_b4 (hn : n ≤ 8) {i k : Nat} (hi : i < n) (N : Nat → Nat → Int) (X : List (List Int)) (w : Int) :
    loopO (impl_powerUpTo_b4 most (X, (i : Int)) w (tab n (G k))) (mat n n N, 0) = some (mat n n (fun a b => if a = i then capMul most (N a b) w (G k b) else N a b)) := by
  have hx := loop_idx (body := impl_powerUpTo_b4 most (X, (i : Int)) w (tab n (G k))) n (fun j => (mat n n (fun a b => if a = i ∧ b < j then capMul most (N a b) w (G k b) else N a b), (j : Int))) (mat n n (fun a b => if a = i then capMul most (N a b) w (G k b) else N a b)) (fun j hj => by
    simp only [impl_powerUpTo_b4, tab_len, idxO_tab hj, idxO_mat hi, Option.bind_some, w64_nat (show j < 9223372036854775807 by omega), show ((j : Int) < (n : Int)) from by omega, decide_true, if_true, Int.toNat_natCast]
    rw [mat_set2 hi hj]
    congr 3
    refine mat_ext fun a b _ _ => ?_
    by_cases ha : a = i
    · subst ha
      by_cases hb : b = j
      · subst hb; simp [capMul]
      · by_cases h2 : b < j
        · simp [hb, h2, show b < j + 1 by omega]
        · simp [hb, h2, show ¬ b < j + 1 by omega]
    · simp [ha]) (by
    simp only [impl_powerUpTo_b4, tab_len, Int.lt_irrefl, decide_false, Bool.false_eq_true, if_false]
    congr 2
    exact mat_ext fun a b _ hb => by simp [hb])
  simpa using hx
theorem impl_b3 (hn : n ≤ 8) {i : Nat} (hi : i < n) (N : Nat → Nat → Int) (X : List (List Int)) (w : Nat → Int) :
    loopO (impl_powerUpTo_b3 (mat n n G) most (X, (i : Int)) (tab n w)) (mat n n N, 0) = some (mat n n (fun a b => if a = i then foldN n (fun acc k => capMul most acc (w k) (G k b)) (N a b) else N a b)) := by
  have hx := loop_idx (body := impl_powerUpTo_b3 (mat n n G) most (X, (i : Int)) (tab n w)) n (fun k => (mat n n (fun a b => if a = i then foldN k (fun acc k => capMul most acc (w k) (G k b)) (N a b) else N a b), (k : Int))) (mat n n (fun a b => if a = i then foldN n (fun acc k => capMul most acc (w k) (G k b)) (N a b) else N a b)) (fun k hk => by
    simp only [impl_powerUpTo_b3, tab_len, idxO_tab hk, idxO_mat hk, Option.bind_some, impl_b4 hn hi, impl_powerUpTo_k6, w64_nat (show k < 9223372036854775807 by omega), show ((k : Int) < (n : Int)) from by omega, decide_true, if_true]
    congr 3
    refine mat_ext fun a b _ _ => ?_
    by_cases ha : a = i
    · subst ha; simp [foldN_succ]
    · simp [ha]) (by simp only [impl_powerUpTo_b3, tab_len, Int.lt_irrefl, decide_false, Bool.false_eq_true, if_false])
  simp only [foldN_zero] at hx
  rw [show (fun a b => if a = i then N a b else N a b) = N from by funext a b; split <;> rfl] at hx
  simpa using hx
theorem impl_b2 (hn : n ≤ 8) (F : Nat → Nat → Int) (t : Int) :
    loopO (impl_powerUpTo_b2 (mat n n G) most (mat n n F, t)) (mat n n (fun _ _ => 0), 0) = some (mat n n (powStep n G most F)) := by
  have hx := loop_idx (body := impl_powerUpTo_b2 (mat n n G) most (mat n n F, t)) n (fun i => (mat n n (fun a b => if a < i then powStep n G most F a b else 0), (i : Int))) (mat n n (powStep n G most F)) (fun i hi => by
    simp only [impl_powerUpTo_b2, mat_len, idxO_mat hi, Option.bind_some, impl_b3 hn hi, impl_powerUpTo_k5, w64_nat (show i < 9223372036854775807 by omega), show ((i : Int) < (n : Int)) from by omega, decide_true, if_true]
    congr 3
    refine mat_ext fun a b _ _ => ?_
    by_cases ha : a = i
    · subst ha; simp [powStep]
    · by_cases h2 : a < i
      · simp [ha, h2, show a < i + 1 by omega]
      · simp [ha, h2, show ¬ a < i + 1 by omega]) (by
    simp only [impl_powerUpTo_b2, mat_len, Int.lt_irrefl, decide_false, Bool.false_eq_true, if_false]
    congr 2
    exact mat_ext fun a b ha _ => by simp [ha])
  simpa using hx
theorem impl_b1 (hn : n ≤ 8) (m : Nat) (hm : m ≤ 1048576) : loopO (impl_powerUpTo_b1 (mat n n G) (m : Int) most) (mat n n idM, 0) = some (mat n n (powN n G most m)) := by
  have hx := loop_idx (body := impl_powerUpTo_b1 (mat n n G) (m : Int) most) m (fun t => (mat n n (powN n G most t), (t : Int))) (mat n n (powN n G most m)) (fun t ht => by
    simp only [impl_powerUpTo_b1, mat_len, impl_emptyGraph_eq n (by omega), impl_b2 hn, Option.bind_some, impl_powerUpTo_k4, impl_powerUpTo_k3, w64_nat (show t < 9223372036854775807 by omega), show ((t : Int) < (m : Int)) from by omega, decide_true, if_true]
    rfl) (by simp only [impl_powerUpTo_b1, Int.lt_irrefl, decide_false, Bool.false_eq_true, if_false])
  exact hx
theorem impl_powerUpTo_eq (hn : n ≤ 8) (m : Nat) (hm : m ≤ 1048576) : impl_powerUpTo (mat n n G) (m : Int) most = some (mat n n (powN n G most m)) := by
  have hx := loop_idx (body := impl_powerUpTo_b5 (mat n n fun _ _ => 0)) n (fun i => (mat n n (fun a b => if a < i then idM a b else 0), (i : Int))) (mat n n idM) (fun i hi => by
    simp only [impl_powerUpTo_b5, mat_len, idxO_mat hi, idxO_tab hi, Option.bind_some, w64_nat (show i < 9223372036854775807 by omega), show ((i : Int) < (n : Int)) from by omega, decide_true, if_true, Int.toNat_natCast]
    rw [mat_set2 hi hi]
    congr 3
    refine mat_ext fun a b _ _ => ?_
    by_cases ha : a = i
    · subst ha
      by_cases hb : b = a
      · subst hb; simp [idM]
      · simp [hb, idM, Ne.symm hb]
    · by_cases h2 : a < i
      · simp [ha, h2, show a < i + 1 by omega]
      · simp [ha, h2, show ¬ a < i + 1 by omega]) (by
    simp only [impl_powerUpTo_b5, mat_len, Int.lt_irrefl, decide_false, Bool.false_eq_true, if_false]
    congr 2
    exact mat_ext fun a b ha _ => by simp [ha])
  unfold impl_powerUpTo
  rw [mat_len, impl_emptyGraph_eq n (by omega), Option.bind_some]
  simp only [Nat.not_lt_zero, if_false] at hx
  rw [show (0 : Int) = ((0 : Nat) : Int) from rfl, show (fun (_ _ : Nat) => ((0 : Nat) : Int)) = fun _ _ => (0 : Int) from rfl, hx, Option.bind_some, impl_powerUpTo_k1, impl_b1 hn m hm]
  rfl
end impl
section spec
variable {n : Nat} {G : Nat → Nat → Int}
theorem spec_grCap_eq (v : Int) : spec_grCap v = some (if (1000000001 : Int) < v then 1000000001 else v) := by
  unfold spec_grCap spec_l1Least
  by_cases h : v < 1000000001
  · simp [h, show ¬ (1000000001 : Int) < v by omega]
  · by_cases h2 : (1000000001 : Int) < v
    · simp [h, h2]
    · have : v = 1000000001 := by omega
      subst this; simp
theorem spec_b4 (hn : n ≤ 8) {i j : Nat} (hi : i < n) (hj : j < n) (F : Nat → Nat → Int) (t : Int) (Y : List (List Int)) (Z : List Int) (R : Nat → Int) :
    loopO (spec_grPower_b4 (mat n n G) (t, mat n n F) (Y, (i : Int)) (Z, (j : Int))) (tab n R, 0) = some (tab n (fun b => if b = j then foldN n (fun acc k => capMul 1000000001 acc (F i k) (G k j)) (R b) else R b)) := by
  have hx := loop_idx (body := spec_grPower_b4 (mat n n G) (t, mat n n F) (Y, (i : Int)) (Z, (j : Int))) n (fun l => (tab n (fun b => if b = j then foldN l (fun acc k => capMul 1000000001 acc (F i k) (G k j)) (R b) else R b), (l : Int))) (tab n (fun b => if b = j then foldN n (fun acc k => capMul 1000000001 acc (F i k) (G k j)) (R b) else R b)) (fun l hl => by
    simp only [spec_grPower_b4, mat_len, idxO_tab hj, idxO_mat hi, idxO_mat hl, idxO_tab hl, Option.bind_some, spec_grCap_eq, w64_nat (show l < 9223372036854775807 by omega), show ((l : Int) < (n : Int)) from by omega, decide_true, if_true, Int.toNat_natCast]
    rw [tab_set hj]
    congr 3
    refine tab_ext fun b _ => ?_
    by_cases hb : b = j
    · subst hb; simp only [if_true, foldN_succ]; rfl
    · simp [hb]) (by simp only [spec_grPower_b4, mat_len, Int.lt_irrefl, decide_false, Bool.false_eq_true, if_false])
  simp only [foldN_zero] at hx
  rw [show (fun b => if b = j then R b else R b) = R from by funext b; split <;> rfl] at hx
  simpa using hx
theorem spec_b3 (hn : n ≤ 8) {i : Nat} (hi : i < n) (F : Nat → Nat → Int) (t : Int) (Y : List (List Int)) :
    loopO (spec_grPower_b3 (mat n n G) (t, mat n n F) (Y, (i : Int))) (tab n (fun _ => 0), 0) = some (tab n (powStep n G 1000000001 F i)) := by
  have hx := loop_idx (body := spec_grPower_b3 (mat n n G) (t, mat n n F) (Y, (i : Int))) n (fun j => (tab n (fun b => if b < j then powStep n G 1000000001 F i b else 0), (j : Int))) (tab n (powStep n G 1000000001 F i)) (fun j hj => by
    simp only [spec_grPower_b3, mat_len, spec_b4 hn hi hj, Option.bind_some, spec_grPower_k7, w64_nat (show j < 9223372036854775807 by omega), show ((j : Int) < (n : Int)) from by omega, decide_true, if_true]
    congr 3
    refine tab_ext fun b _ => ?_
    by_cases hb : b = j
    · subst hb; simp [powStep]
    · by_cases h2 : b < j
      · simp [hb, h2, show b < j + 1 by omega]
      · simp [hb, h2, show ¬ b < j + 1 by omega]) (by
    simp only [spec_grPower_b3, mat_len, Int.lt_irrefl, decide_false, Bool.false_eq_true, if_false]
    congr 2
    exact tab_ext fun b hb => by simp [hb])
  simpa using hx
theorem spec_b2 (hn : n ≤ 8) (F : Nat → Nat → Int) (t : Int) : loopO (spec_grPower_b2 (mat n n G) (t, mat n n F)) ([], 0) = some (mat n n (powStep n G 1000000001 F)) := by
  have hx := loop_idx (body := spec_grPower_b2 (mat n n G) (t, mat n n F)) n (fun i => (tab i (fun a => tab n (powStep n G 1000000001 F a)), (i : Int))) (mat n n (powStep n G 1000000001 F)) (fun i hi => by
    simp only [spec_grPower_b2, mat_len, show ((i : Int) < (n : Int)) from by omega, decide_true, if_true]
    rw [guardO_bind_pos (by omega), Int.toNat_natCast, rep_tab, spec_b3 hn hi, Option.bind_some, spec_grPower_k6, guardO_bind_pos (by simp [tab_len]; omega), spec_grPower_k5]
    simp only [w64_nat (show i < 9223372036854775807 by omega)]
    rw [tab_succ i (fun a => tab n (powStep n G 1000000001 F a))]) (by simp only [spec_grPower_b2, mat_len, Int.lt_irrefl, decide_false, Bool.false_eq_true, if_false]; rfl)
  simpa [tab_zero] using hx
theorem spec_b1 (hn : n ≤ 8) (m : Nat) (hm : m ≤ 1048576) : loopO (spec_grPower_b1 (mat n n G)) ((m : Int), mat n n idM) = some (mat n n (powN n G 1000000001 m)) := by
  have hx := loop_idx (body := spec_grPower_b1 (mat n n G)) m (fun t => (((m - t : Nat) : Int), mat n n (powN n G 1000000001 t))) (mat n n (powN n G 1000000001 m)) (fun t ht => by
    simp only [spec_grPower_b1, show (((m - t : Nat) : Int) > 0) from by omega, decide_true, if_true, spec_b2 hn, Option.bind_some, spec_grPower_k4, spec_grPower_k3]
    rw [w64_id (by omega) (by omega), show ((m - t : Nat) : Int) - 1 = ((m - (t + 1) : Nat) : Int) by omega]
    rfl) (by simp [spec_grPower_b1])
  simpa [powN] using hx
theorem spec_grPower_eq (hn : n ≤ 8) (m : Nat) (hm : m ≤ 1048576) : spec_grPower (mat n n G) (m : Int) = some (mat n n (powN n G 1000000001 m)) := by
  have hx := loop_idx (body := spec_grPower_b5 (mat n n G)) n (fun i => (tab i (fun a => tab n (idM a)), (i : Int))) (mat n n idM) (fun i hi => by
    simp only [spec_grPower_b5, mat_len, show ((i : Int) < (n : Int)) from by omega, decide_true, if_true]
    rw [guardO_bind_pos (by omega), guardO_bind_pos (by simp [tab_len]; omega), Int.toNat_natCast, Int.toNat_natCast, rep_tab]
    have e : tab i (fun a => tab n (idM a)) ++ [tab n fun _ => (0 : Int)] = tab (i + 1) (fun a => if a < i then tab n (idM a) else tab n fun _ => 0) := by
      rw [← tab_succ]
      simp only [Nat.lt_irrefl, if_false]
      congr 1
      exact tab_ext fun a ha => by simp [ha]
    rw [e, idxO_tab (Nat.lt_succ_self i), Option.bind_some]
    simp only [Nat.lt_irrefl, if_false, idxO_tab hi, Option.bind_some, w64_nat (show i < 9223372036854775807 by omega)]
    rw [tab_set (Nat.lt_succ_self i), tab_set hi]
    congr 3
    refine tab_ext fun a ha => ?_
    by_cases h1 : a = i
    · subst h1
      simp only [if_true]
      exact tab_ext fun b _ => by simp [idM, eq_comm]
    · simp [h1, show a < i by omega]) (by simp only [spec_grPower_b5, mat_len, Int.lt_irrefl, decide_false, Bool.false_eq_true, if_false]; rfl)
  unfold spec_grPower
  simp only [tab_zero] at hx
  rw [show (0 : Int) = ((0 : Nat) : Int) from rfl, hx, Option.bind_some, spec_grPower_k1, spec_b1 hn m hm]
  rfl
end spec
/-! ### sizes -/
theorem capMul_range {most acc w a : Int} (hm : 0 ≤ most) (hm2 : most ≤ 1000000000000000000) (h1 : 0 ≤ acc) (h2 : acc ≤ most) (h3 : 0 ≤ w) (h4 : w ≤ most) (h5 : 0 ≤ a) (h6 : a ≤ 9) (hs : most ≤ 100000000000000000 ∨ w * a ≤ 8000000000000000000) : 0 ≤ capMul most acc w a ∧ capMul most acc w a ≤ most := by
  have hwa : 0 ≤ w * a := Int.mul_nonneg h3 h5
  have hwa2 : w * a ≤ w * 9 := Int.mul_le_mul_of_nonneg_left h6 h3
  have : w * a ≤ 8000000000000000000 := by rcases hs with h | h <;> omega
  unfold capMul
  rw [w64_id (n := w * a) (by omega) (by omega), w64_id (n := acc + w * a) (by omega) (by omega)]
  split <;> omega
theorem foldN_inv {β : Type} {g : β → Nat → β} {s : β} {n : Nat} (I : β → Prop) (h0 : I s) (hs : ∀ b i, i < n → I b → I (g b i)) : I (foldN n g s) := by
  induction n with
  | zero => exact h0
  | succ n ih => rw [foldN_succ]; exact hs _ n (by omega) (ih fun b i hi => hs b i (by omega))
theorem powN_range {n : Nat} {G : Nat → Nat → Int} {most : Int} (hG : ∀ i j, i < n → j < n → 0 ≤ G i j ∧ G i j ≤ 9) (hm : 1 ≤ most) (hm2 : most ≤ 100000000000000000) : ∀ (m i j : Nat), i < n → j < n → 0 ≤ powN n G most m i j ∧ powN n G most m i j ≤ most
  | 0, i, j, _, _ => by unfold powN idM; split <;> omega
  | m + 1, i, j, hi, hj => by
    show 0 ≤ foldN n _ 0 ∧ foldN n _ 0 ≤ most
    exact foldN_inv (fun x => 0 ≤ x ∧ x ≤ most) ⟨by omega, by omega⟩ fun b k hk hb => by
      have h1 := powN_range hG hm hm2 m i k hi hk
      have h2 := hG k j hk hj
      exact capMul_range (by omega) (by omega) hb.1 hb.2 h1.1 h1.2 h2.1 h2.2 (.inl hm2)
/-- The sum of a list of rows, and what it is when it is cut at a bound. -/
theorem sum_row (xs : List Int) (v : Int) (hv : 0 ≤ v ∧ v ≤ 1000000000000) (hx : ∀ x ∈ xs, 0 ≤ x ∧ x ≤ 1000000001) (hl : xs.length ≤ 8) :
    loopO (impl_TotalWalks_b2 xs) (v, 0) = some (v + xs.sum) := by
  have hb : ∀ i, i ≤ xs.length → 0 ≤ (xs.take i).sum ∧ (xs.take i).sum ≤ 1000000001 * i := by
    intro i
    induction i with
    | zero => simp
    | succ i ih =>
      intro hi
      have h1 := ih (by omega)
      have h2 := hx xs[i] (List.getElem_mem (by omega))
      rw [List.take_add_one, List.sum_append, List.getElem?_eq_getElem (by omega)]
      simp only [Option.toList_some, List.sum_cons, List.sum_nil]
      omega
  have h := loop_idx (body := impl_TotalWalks_b2 xs) xs.length (fun i => (v + (xs.take i).sum, (i : Int))) (v + xs.sum) (fun i hi => by
    have h1 := hb i (by omega)
    have h2 := hb (i + 1) (by omega)
    have h3 : (xs.take (i + 1)).sum = (xs.take i).sum + xs[i] := by
      rw [List.take_add_one, List.sum_append, List.getElem?_eq_getElem hi]; simp
    simp only [impl_TotalWalks_b2, idxO_lt hi, Option.bind_some, w64_nat (show i < 9223372036854775807 by omega), show ((i : Int) < (xs.length : Int)) from by omega, decide_true, if_true]
    rw [w64_id (by omega) (by omega), h3, Int.add_assoc]) (by simp [impl_TotalWalks_b2])
  simpa using h
def capAt (x : Int) : Int := if 1000000001 < x then 1000000001 else x
theorem cap_row (xs : List Int) (v : Int) (hv : 0 ≤ v) (hx : ∀ x ∈ xs, 0 ≤ x ∧ x ≤ 1000000001) (hl : xs.length ≤ 8) :
    loopO (spec_gwTotal_b2 xs) (capAt v, 0) = some (capAt (v + xs.sum)) := by
  have hb : ∀ i, i ≤ xs.length → 0 ≤ (xs.take i).sum := by
    intro i
    induction i with
    | zero => simp
    | succ i ih =>
      intro hi
      have h1 := ih (by omega)
      have h2 := hx xs[i] (List.getElem_mem (by omega))
      rw [List.take_add_one, List.sum_append, List.getElem?_eq_getElem (by omega)]
      simp only [Option.toList_some, List.sum_cons, List.sum_nil]
      omega
  have h := loop_idx (body := spec_gwTotal_b2 xs) xs.length (fun i => (capAt (v + (xs.take i).sum), (i : Int))) (capAt (v + xs.sum)) (fun i hi => by
    have h1 := hb i (by omega)
    have h2 := hx xs[i] (List.getElem_mem hi)
    have h3 : (xs.take (i + 1)).sum = (xs.take i).sum + xs[i] := by
      rw [List.take_add_one, List.sum_append, List.getElem?_eq_getElem hi]; simp
    simp only [spec_gwTotal_b2, idxO_lt hi, Option.bind_some, spec_grCap_eq, w64_nat (show i < 9223372036854775807 by omega), show ((i : Int) < (xs.length : Int)) from by omega, decide_true, if_true]
    rw [h3]
    have h4 : 0 ≤ capAt (v + (xs.take i).sum) ∧ capAt (v + (xs.take i).sum) ≤ 1000000001 := by unfold capAt; split <;> omega
    rw [w64_id (by omega) (by omega)]
    congr 3
    unfold capAt
    (repeat' split) <;> omega) (by simp [spec_gwTotal_b2])
  simpa using h
def total (g : List (List Int)) : Int := (g.map List.sum).sum
theorem sum_nonneg {xs : List Int} (hx : ∀ x ∈ xs, 0 ≤ x ∧ x ≤ 1000000001) : 0 ≤ xs.sum ∧ xs.sum ≤ 1000000001 * xs.length := by
  induction xs with
  | nil => simp
  | cons x xs ih =>
    have h1 := hx x (by simp)
    have h2 := ih fun y hy => hx y (by simp [hy])
    simp only [List.sum_cons, List.length_cons]; omega
theorem total_take {g : List (List Int)} (hx : ∀ row ∈ g, row.length ≤ 8 ∧ ∀ x ∈ row, 0 ≤ x ∧ x ≤ 1000000001) : ∀ i, i ≤ g.length → 0 ≤ total (g.take i) ∧ total (g.take i) ≤ 10000000000 * i := by
  intro i
  induction i with
  | zero => simp [total]
  | succ i ih =>
    intro hi
    have h1 := ih (by omega)
    have h2 := hx g[i] (List.getElem_mem (by omega))
    have h3 := sum_nonneg h2.2
    unfold total at h1 ⊢
    rw [List.take_add_one, List.map_append, List.sum_append, List.getElem?_eq_getElem (by omega)]
    simp only [Option.toList_some, List.map_cons, List.map_nil, List.sum_cons, List.sum_nil]
    omega
theorem total_succ {g : List (List Int)} {i : Nat} (hi : i < g.length) : total (g.take (i + 1)) = total (g.take i) + g[i].sum := by
  unfold total
  rw [List.take_add_one, List.map_append, List.sum_append, List.getElem?_eq_getElem hi]; simp
theorem impl_total (g : List (List Int)) (hl : g.length ≤ 8) (hx : ∀ row ∈ g, row.length ≤ 8 ∧ ∀ x ∈ row, 0 ≤ x ∧ x ≤ 1000000001) : loopO (impl_TotalWalks_b1 g) (0, 0) = some (total g) := by
  have h := loop_idx (body := impl_TotalWalks_b1 g) g.length (fun i => (total (g.take i), (i : Int))) (total g) (fun i hi => by
    have h1 := total_take hx i (by omega)
    have h2 := hx g[i] (List.getElem_mem hi)
    simp only [impl_TotalWalks_b1, idxO_lt hi, Option.bind_some, sum_row g[i] _ ⟨h1.1, by omega⟩ h2.2 h2.1, impl_TotalWalks_k2, w64_nat (show i < 9223372036854775807 by omega), show ((i : Int) < (g.length : Int)) from by omega, decide_true, if_true]
    rw [total_succ hi]) (by simp [impl_TotalWalks_b1])
  exact h
theorem spec_total (g : List (List Int)) (hl : g.length ≤ 8) (hx : ∀ row ∈ g, row.length ≤ 8 ∧ ∀ x ∈ row, 0 ≤ x ∧ x ≤ 1000000001) : loopO (spec_gwTotal_b1 g) (0, 0) = some (capAt (total g)) := by
  have h := loop_idx (body := spec_gwTotal_b1 g) g.length (fun i => (capAt (total (g.take i)), (i : Int))) (capAt (total g)) (fun i hi => by
    have h1 := total_take hx i (by omega)
    have h2 := hx g[i] (List.getElem_mem hi)
    simp only [spec_gwTotal_b1, idxO_lt hi, Option.bind_some, cap_row g[i] _ h1.1 h2.2 h2.1, spec_gwTotal_k2, w64_nat (show i < 9223372036854775807 by omega), show ((i : Int) < (g.length : Int)) from by omega, decide_true, if_true]
    rw [total_succ hi]) (by simp [spec_gwTotal_b1])
  exact h
theorem mat_rows {n : Nat} {F : Nat → Nat → Int} (hn : n ≤ 8) (hF : ∀ i j, i < n → j < n → 0 ≤ F i j ∧ F i j ≤ 1000000001) : ∀ row ∈ mat n n F, row.length ≤ 8 ∧ ∀ x ∈ row, 0 ≤ x ∧ x ≤ 1000000001 := by
  intro row hr
  obtain ⟨i, hi, rfl⟩ := tab_mem.1 hr
  refine ⟨by rw [tab_len]; exact hn, fun x hx => ?_⟩
  obtain ⟨j, hj, rfl⟩ := tab_mem.1 hx
  exact hF i j hi hj
/-- The number of all walks, if it is told. -/
def totalWalks (g : List (List Int)) (m : Int) : Int × Bool :=
  if isGraph g && inB 0 12 m then
    let t := total (mat g.length g.length (powN g.length (fun i j => (g.getD i []).getD j 0) 1000000001 m.toNat))
    if t > 1000000000 then (0, false) else (t, true)
  else (0, false)
theorem mat_self {n : Nat} {G : Nat → Nat → Int} (i j : Nat) (hi : i < n) (hj : j < n) : ((mat n n G).getD i []).getD j 0 = G i j := by
  simp [List.getD, mat, tab_get hi, tab_get hj]
theorem powN_congr {n : Nat} {G G' : Nat → Nat → Int} {most : Int} (h : ∀ i j, i < n → j < n → G i j = G' i j) : ∀ m i j, j < n → powN n G most m i j = powN n G' most m i j
  | 0, _, _, _ => rfl
  | m + 1, i, j, hj => by
    show foldN n _ 0 = foldN n _ 0
    exact foldN_ext fun b k hk => by rw [powN_congr h m i k hk, h k j hk hj]
theorem impl_TotalWalks_eq (g : List (List Int)) (m : Int) (hs : sized g) : impl_TotalWalks g m = some (totalWalks g m) := by
  unfold impl_TotalWalks totalWalks impl_isWalk
  rw [impl_isGraph_eq g hs]
  simp only [Option.bind_some, impl_within_eq]
  cases hg : isGraph g
  · rfl
  · cases hm : inB 0 12 m
    · rfl
    · obtain ⟨n, G, h1, h2, rfl, hG⟩ := isGraph_mat hg
      have hm' := inB_iff.1 hm
      obtain ⟨k, rfl⟩ := Int.eq_ofNat_of_zero_le hm'.1
      have e : mat n n (powN n (fun i j => ((mat n n G).getD i []).getD j 0) 1000000001 k) = mat n n (powN n G 1000000001 k) := mat_ext fun i j _ hj => powN_congr (fun i j hi hj => mat_self i j hi hj) k i j hj
      simp only [if_true, Bool.not_true, Bool.false_eq_true, if_false, Bool.and_self, impl_power, impl_powerUpTo_eq h2 k (by omega), Option.bind_some, mat_len, Int.toNat_natCast, e]
      rw [impl_total _ (by rw [mat_len]; exact h2) (mat_rows h2 fun i j hi hj => powN_range hG (by decide) (by decide) k i j hi hj)]
      simp only [Option.bind_some, impl_TotalWalks_k1]
      by_cases ht : total (mat n n (powN n G 1000000001 k)) > 1000000000 <;> simp [ht]
theorem spec_gwTotal_eq {n : Nat} {G : Nat → Nat → Int} (h2 : n ≤ 8) (hG : ∀ i j, i < n → j < n → 0 ≤ G i j ∧ G i j ≤ 9) (k : Nat) (hk : k ≤ 1048576) : spec_gwTotal (mat n n G) (k : Int) = some (capAt (total (mat n n (powN n G 1000000001 k)))) := by
  unfold spec_gwTotal
  rw [spec_grPower_eq h2 k hk, Option.bind_some, spec_total _ (by rw [mat_len]; exact h2) (mat_rows h2 fun i j hi hj => powN_range hG (by decide) (by decide) k i j hi hj)]
  rfl
theorem spec_TotalWalks_eq (g : List (List Int)) (m : Int) (hs : sized g) : spec_TotalWalks g m = some (totalWalks g m) := by
  unfold spec_TotalWalks totalWalks
  rw [spec_grGood_eq g hs]
  simp only [Option.bind_some, spec_grSteps, spec_l1In_eq]
  cases hg : isGraph g
  · rfl
  · cases hm : inB 0 12 m
    · rfl
    · obtain ⟨n, G, h1, h2, rfl, hG⟩ := isGraph_mat hg
      have hm' := inB_iff.1 hm
      obtain ⟨k, rfl⟩ := Int.eq_ofNat_of_zero_le hm'.1
      have e : mat n n (powN n (fun i j => ((mat n n G).getD i []).getD j 0) 1000000001 k) = mat n n (powN n G 1000000001 k) := mat_ext fun i j _ hj => powN_congr (fun i j hi hj => mat_self i j hi hj) k i j hj
      simp only [if_true, Bool.not_true, Bool.false_eq_true, if_false, Bool.and_self, Option.bind_some, mat_len, Int.toNat_natCast, e, spec_gwTotal_eq h2 hG k (by omega)]
      by_cases ht : total (mat n n (powN n G 1000000001 k)) > 1000000000
      · have : capAt (total (mat n n (powN n G 1000000001 k))) > 1000000000 := by unfold capAt; split <;> omega
        simp [ht, this]
      · have : capAt (total (mat n n (powN n G 1000000001 k))) = total (mat n n (powN n G 1000000001 k)) := by unfold capAt; split <;> omega
        simp [ht, this]
theorem laws_FnExactTotalWalks_eq (g : List (List Int)) (m : Int) (hl : g.length ≤ 9223372036854775807) (hr : ∀ row ∈ g, row.length ≤ 9223372036854775807) : laws_FnExactTotalWalks g m = some true := by
  obtain ⟨v, h1, h2⟩ := laws_szIntSS_eq g hl hr
  unfold laws_FnExactTotalWalks
  rw [h1, Option.bind_some]
  by_cases hv : v < 0
  · simp [hv]
  · have hs := h2 (by omega)
    simp only [hv, decide_false, Bool.false_eq_true, if_false, laws_toIntSS_eq g hs, spec_TotalWalks_eq g m hs, impl_TotalWalks_eq g m hs, laws_eqIntSS_self g hs, Option.bind_some]
    simp
/-! ### digits -/
theorem digits_ends (v : Int) (h : v ≤ 9223372036854775807) (d : Int) : ∃ r, loopO impl_WalkDigits_b1 (v, d) = some r := by
  obtain ⟨y, h1, _⟩ := loop_run (body := impl_WalkDigits_b1) (fun x => x.1 ≤ 9223372036854775807) (fun x => x.1.toNat) (fun _ => True) (fun ⟨a, b⟩ ha => by
    simp only at ha
    by_cases hlt : a > 1
    · left
      have h3 : Int.tdiv a 2 = a / 2 := Int.tdiv_eq_ediv_of_nonneg (by omega)
      refine ⟨(a / 2, w64 (b + 1)), ?_, by simp only []; omega, by simp only []; omega⟩
      simp only [impl_WalkDigits_b1, hlt, decide_true, if_true, h3]
      rw [w64_id (n := a / 2) (by omega) (by omega)]
    · right; exact ⟨b, by simp [impl_WalkDigits_b1, hlt], trivial⟩) (v, d) h
  exact ⟨y, h1⟩
theorem digits_same : spec_WalkDigits_b1 = impl_WalkDigits_b1 := rfl
theorem WalkDigits_same (g : List (List Int)) (m : Int) (hs : sized g) : ∃ r, impl_WalkDigits g m = some r ∧ spec_WalkDigits g m = some r := by
  unfold impl_WalkDigits spec_WalkDigits
  rw [impl_TotalWalks_eq g m hs, spec_grGood_eq g hs]
  simp only [Option.bind_some, spec_grSteps, spec_l1In_eq, totalWalks, digits_same]
  cases hg : isGraph g
  · exact ⟨_, rfl, rfl⟩
  · cases hm : inB 0 12 m
    · exact ⟨_, rfl, rfl⟩
    · obtain ⟨n, G, h1, h2, rfl, hG⟩ := isGraph_mat hg
      have hm' := inB_iff.1 hm
      obtain ⟨k, rfl⟩ := Int.eq_ofNat_of_zero_le hm'.1
      have e : mat n n (powN n (fun i j => ((mat n n G).getD i []).getD j 0) 1000000001 k) = mat n n (powN n G 1000000001 k) := mat_ext fun i j _ hj => powN_congr (fun i j hi hj => mat_self i j hi hj) k i j hj
      have hpos : 0 ≤ total (mat n n (powN n G 1000000001 k)) := by
        have := total_take (mat_rows h2 fun i j hi hj => powN_range hG (by decide) (by decide) k i j hi hj) n (by rw [mat_len]; exact Nat.le_refl _)
        rw [List.take_of_length_le (by rw [mat_len]; exact Nat.le_refl _)] at this
        exact this.1
      simp only [if_true, Bool.not_true, Bool.false_eq_true, if_false, Bool.and_self, Option.bind_some, mat_len, Int.toNat_natCast, e, spec_gwTotal_eq h2 hG k (by omega)]
      by_cases ht : total (mat n n (powN n G 1000000001 k)) > 1000000000
      · have : capAt (total (mat n n (powN n G 1000000001 k))) > 1000000000 := by unfold capAt; split <;> omega
        simp [ht, this]
      · have : capAt (total (mat n n (powN n G 1000000001 k))) = total (mat n n (powN n G 1000000001 k)) := by unfold capAt; split <;> omega
        obtain ⟨r, hr⟩ := digits_ends (total (mat n n (powN n G 1000000001 k))) (by omega) 0
        by_cases hz : total (mat n n (powN n G 1000000001 k)) = 0
        · have hc0 : capAt 0 = 0 := rfl
          simp [hz, hc0]
        · refine ⟨(r, true), ?_, ?_⟩ <;> simp [ht, hz, this, hr, impl_WalkDigits_k1, spec_WalkDigits_k1]
theorem laws_FnExactWalkDigits_eq (g : List (List Int)) (m : Int) (hl : g.length ≤ 9223372036854775807) (hr : ∀ row ∈ g, row.length ≤ 9223372036854775807) : laws_FnExactWalkDigits g m = some true := by
  obtain ⟨v, h1, h2⟩ := laws_szIntSS_eq g hl hr
  unfold laws_FnExactWalkDigits
  rw [h1, Option.bind_some]
  by_cases hv : v < 0
  · simp [hv]
  · have hs := h2 (by omega)
    obtain ⟨r, h3, h4⟩ := WalkDigits_same g m hs
    simp only [hv, decide_false, Bool.false_eq_true, if_false, laws_toIntSS_eq g hs, h3, h4, laws_eqIntSS_self g hs, Option.bind_some]
    simp
end Go.PV

/-
  Plain laws: sums, powers of tables of numbers, traces.
  Conditions: none.
-/
set_option linter.all false
namespace Go.PV
/-- A sum over the first n numbers. -/
def sm (n : Nat) (f : Nat → Int) : Int := foldN n (fun s i => s + f i) 0
theorem sm_zero (f : Nat → Int) : sm 0 f = 0 := rfl
theorem sm_succ (n : Nat) (f : Nat → Int) : sm (n + 1) f = sm n f + f n := foldN_succ ..
theorem sm_ext {n : Nat} {f g : Nat → Int} (h : ∀ i, i < n → f i = g i) : sm n f = sm n g := foldN_ext fun b i hi => by rw [h i hi]
theorem sm_add (n : Nat) (f g : Nat → Int) : sm n (fun i => f i + g i) = sm n f + sm n g := by
  induction n with
  | zero => rfl
  | succ n ih => rw [sm_succ, sm_succ, sm_succ, ih]; omega
theorem sm_mul (n : Nat) (c : Int) (f : Nat → Int) : sm n (fun i => c * f i) = c * sm n f := by
  induction n with
  | zero => simp [sm_zero]
  | succ n ih => rw [sm_succ, sm_succ, ih, Int.mul_add]
theorem sm_mul' (n : Nat) (c : Int) (f : Nat → Int) : sm n (fun i => f i * c) = sm n f * c := by
  rw [Int.mul_comm, ← sm_mul]; exact sm_ext fun i _ => Int.mul_comm ..
theorem sm_zeros (n : Nat) : sm n (fun _ => 0) = 0 := by
  induction n with
  | zero => rfl
  | succ n ih => rw [sm_succ, ih]; rfl
theorem sm_swap (n m : Nat) (f : Nat → Nat → Int) : sm n (fun i => sm m fun j => f i j) = sm m fun j => sm n fun i => f i j := by
  induction n with
  | zero => simp only [sm_zero]; exact (sm_zeros m).symm
  | succ n ih => rw [sm_succ, ih, ← sm_add]; exact sm_ext fun j _ => (sm_succ ..).symm
theorem sm_delta {n a : Nat} (h : a < n) (f : Nat → Int) : sm n (fun i => if i = a then f i else 0) = f a := by
  induction n with
  | zero => omega
  | succ n ih =>
    rw [sm_succ]
    by_cases hn : a = n
    · subst hn
      rw [if_pos rfl, sm_ext (g := fun _ => 0) fun i hi => if_neg (by omega), sm_zeros]
      omega
    · rw [if_neg (Ne.symm hn), ih (by omega)]; omega
theorem sm_le {n : Nat} {f g : Nat → Int} (h : ∀ i, i < n → f i ≤ g i) : sm n f ≤ sm n g := by
  induction n with
  | zero => exact Int.le_refl _
  | succ n ih => rw [sm_succ, sm_succ]; have := ih fun i hi => h i (by omega); have := h n (by omega); omega
theorem sm_nonneg {n : Nat} {f : Nat → Int} (h : ∀ i, i < n → 0 ≤ f i) : 0 ≤ sm n f := by
  have := sm_le (f := fun _ => 0) (g := f) h
  rw [sm_zeros] at this; exact this
theorem sm_one {n a : Nat} (ha : a < n) {f : Nat → Int} (h : ∀ i, i < n → 0 ≤ f i) : f a ≤ sm n f := by
  rw [← sm_delta ha f]
  refine sm_le fun i hi => ?_
  split
  · omega
  · exact h i hi
theorem sm_dvd {n : Nat} {d : Int} {f : Nat → Int} (h : ∀ i, i < n → d ∣ f i) : d ∣ sm n f := by
  induction n with
  | zero => exact ⟨0, by simp [sm_zero]⟩
  | succ n ih => rw [sm_succ]; exact Int.dvd_add (ih fun i hi => h i (by omega)) (h n (by omega))
theorem sm_sub (n : Nat) (f g : Nat → Int) : sm n (fun i => f i - g i) = sm n f - sm n g := by
  induction n with
  | zero => rfl
  | succ n ih => rw [sm_succ, sm_succ, sm_succ, ih]; omega
/-! ### powers -/
/-- The true power of a table. -/
def pw (n : Nat) (A : Nat → Nat → Int) : Nat → Nat → Nat → Int
  | 0 => fun i j => if i = j then 1 else 0
  | d + 1 => fun i j => sm n fun k => pw n A d i k * A k j
section
variable {n : Nat} {A : Nat → Nat → Int}
theorem pw_one {i j : Nat} (hi : i < n) : pw n A 1 i j = A i j := by
  simp only [pw]
  rw [sm_ext (g := fun k => if k = i then A k j else 0) fun k _ => by
    by_cases h : i = k
    · subst h; simp
    · simp [h, Ne.symm h], sm_delta hi]
theorem pw_add (a : Nat) {i : Nat} (hi : i < n) : ∀ (b j : Nat), j < n → pw n A (a + b) i j = sm n fun k => pw n A a i k * pw n A b k j
  | 0, j, hj => by
    simp only [Nat.add_zero, pw]
    rw [sm_ext (g := fun k => if k = j then pw n A a i k else 0) fun k _ => by by_cases h : k = j <;> simp [h], sm_delta hj]
  | b + 1, j, hj => by
    show sm n (fun l => pw n A (a + b) i l * A l j) = _
    rw [sm_ext (g := fun l => sm n fun k => pw n A a i k * (pw n A b k l * A l j)) fun l hl => by
      rw [pw_add a hi b l hl, ← sm_mul']; exact sm_ext fun k _ => Int.mul_assoc .., sm_swap]
    refine sm_ext fun k _ => ?_
    rw [sm_mul]
    rfl
theorem pw_nonneg (hA : ∀ i j, i < n → j < n → 0 ≤ A i j) : ∀ (d : Nat) {i j : Nat}, i < n → j < n → 0 ≤ pw n A d i j
  | 0, i, j, _, _ => by simp only [pw]; split <;> decide
  | d + 1, i, j, hi, hj => sm_nonneg fun k hk => Int.mul_nonneg (pw_nonneg hA d hi hk) (hA k j hk hj)
theorem pw_mul (d : Nat) {i : Nat} (hi : i < n) : ∀ (k j : Nat), j < n → pw n A (d * k) i j = pw n (pw n A d) k i j
  | 0, j, _ => rfl
  | k + 1, j, hj => by
    rw [Nat.mul_succ, pw_add (d * k) hi d j hj]
    refine sm_ext fun l hl => ?_
    rw [pw_mul d hi k l hl]
def tr (n : Nat) (A : Nat → Nat → Int) : Int := sm n fun i => A i i
/-- The number of closed walks of length d. -/
def cw (n : Nat) (A : Nat → Nat → Int) (d : Nat) : Int := tr n (pw n A d)
theorem cw_mul (d k : Nat) : cw n A (d * k) = cw n (pw n A d) k := sm_ext fun i hi => pw_mul d hi k i hi
theorem cw_one : cw n A 1 = tr n A := sm_ext fun i hi => pw_one hi
/-- Closed walks that are gone more than once are closed walks. -/
theorem cw_le (hA : ∀ i j, i < n → j < n → 0 ≤ A i j) (k : Nat) (hk : 1 ≤ k) : tr n A ≤ cw n A k := by
  refine sm_le fun i hi => ?_
  have key : ∀ k, 1 ≤ k → A i i ≤ pw n A k i i := by
    intro k
    induction k with
    | zero => intro h; omega
    | succ k ih =>
      intro _
      by_cases h0 : k = 0
      · subst h0; rw [Nat.zero_add, pw_one hi]; exact Int.le_refl _
      · have h1 := ih (by omega)
        have h2 : pw n A k i i * A i i ≤ pw n A (k + 1) i i := sm_one hi (f := fun l => pw n A k i l * A l i) fun l hl => Int.mul_nonneg (pw_nonneg hA k hi hl) (hA l i hl hi)
        have h3 := hA i i hi hi
        by_cases h4 : A i i = 0
        · rw [h4]; exact pw_nonneg hA _ hi hi
        · have h5 := Int.mul_le_mul h1 (show (1 : Int) ≤ A i i by omega) (by omega) (by omega)
          omega
  exact key k hk
theorem cw_dvd (hA : ∀ i j, i < n → j < n → 0 ≤ A i j) {d m : Nat} (h : d ∣ m) (hm : 1 ≤ m) : cw n A d ≤ cw n A m := by
  obtain ⟨k, rfl⟩ := h
  rw [cw_mul]
  refine cw_le (fun i j hi hj => pw_nonneg hA d hi hj) k ?_
  cases k with
  | zero => omega
  | succ k => omega
end
end Go.PV

/-
  Plain laws: what divides numbers of closed walks.
  Conditions: none.
-/
set_option linter.all false
namespace Go.PV
section
variable {n : Nat} (hn : n ≤ 8)
def S2 (n : Nat) (f : Nat → Nat → Int) : Int := sm n fun i => sm n fun j => f i j
def S3 (n : Nat) (f : Nat → Nat → Nat → Int) : Int := sm n fun i => S2 n fun j k => f i j k
def S4 (n : Nat) (f : Nat → Nat → Nat → Nat → Int) : Int := sm n fun i => S3 n fun j k l => f i j k l
def S5 (n : Nat) (f : Nat → Nat → Nat → Nat → Nat → Int) : Int := sm n fun i => S4 n fun j k l m => f i j k l m
theorem S2_ext {f g : Nat → Nat → Int} (h : ∀ i j, i < n → j < n → f i j = g i j) : S2 n f = S2 n g := sm_ext fun i hi => sm_ext fun j hj => h i j hi hj
theorem S3_ext {f g : Nat → Nat → Nat → Int} (h : ∀ i j k, i < n → j < n → k < n → f i j k = g i j k) : S3 n f = S3 n g := sm_ext fun i hi => S2_ext fun j k hj hk => h i j k hi hj hk
theorem S4_ext {f g : Nat → Nat → Nat → Nat → Int} (h : ∀ i j k l, i < n → j < n → k < n → l < n → f i j k l = g i j k l) : S4 n f = S4 n g := sm_ext fun i hi => S3_ext fun j k l hj hk hl => h i j k l hi hj hk hl
theorem S5_ext {f g : Nat → Nat → Nat → Nat → Nat → Int} (h : ∀ i j k l m, i < n → j < n → k < n → l < n → m < n → f i j k l m = g i j k l m) : S5 n f = S5 n g := sm_ext fun i hi => S4_ext fun j k l m hj hk hl hm => h i j k l m hi hj hk hl hm
theorem S2_add (f g : Nat → Nat → Int) : S2 n (fun i j => f i j + g i j) = S2 n f + S2 n g := by
  unfold S2
  rw [← sm_add]; exact sm_ext fun i _ => sm_add ..
theorem S3_add (f g : Nat → Nat → Nat → Int) : S3 n (fun i j k => f i j k + g i j k) = S3 n f + S3 n g := by
  unfold S3
  rw [← sm_add]; exact sm_ext fun i _ => S2_add ..
theorem S4_add (f g : Nat → Nat → Nat → Nat → Int) : S4 n (fun i j k l => f i j k l + g i j k l) = S4 n f + S4 n g := by
  unfold S4
  rw [← sm_add]; exact sm_ext fun i _ => S3_add ..
theorem S5_add (f g : Nat → Nat → Nat → Nat → Nat → Int) : S5 n (fun i j k l m => f i j k l m + g i j k l m) = S5 n f + S5 n g := by
  unfold S5
  rw [← sm_add]; exact sm_ext fun i _ => S4_add ..
theorem S2_rot (f : Nat → Nat → Int) : S2 n (fun i j => f j i) = S2 n f := sm_swap n n fun i j => f j i
theorem S3_rot (f : Nat → Nat → Nat → Int) : S3 n (fun i j k => f j k i) = S3 n f := by
  show sm n (fun i => sm n fun j => sm n fun k => f j k i) = sm n fun i => sm n fun j => sm n fun k => f i j k
  rw [sm_swap]
  exact sm_ext fun j _ => sm_swap n n fun i k => f j k i
theorem S4_rot (f : Nat → Nat → Nat → Nat → Int) : S4 n (fun i j k l => f j k l i) = S4 n f := by
  show sm n (fun i => sm n fun j => sm n fun k => sm n fun l => f j k l i) = sm n fun i => S3 n fun j k l => f i j k l
  rw [sm_swap]
  exact sm_ext fun j _ => S3_rot fun k l i => f j k l i
theorem S5_rot (f : Nat → Nat → Nat → Nat → Nat → Int) : S5 n (fun i j k l m => f j k l m i) = S5 n f := by
  show sm n (fun i => sm n fun j => sm n fun k => sm n fun l => sm n fun m => f j k l m i) = sm n fun i => S4 n fun j k l m => f i j k l m
  rw [sm_swap]
  exact sm_ext fun j _ => S4_rot fun k l m i => f j k l m i
/-! ### least rotations -/
def l2 (i j : Nat) : Int := if i < j then 1 else 0
def l3 (i j k : Nat) : Int := if 64 * i + 8 * j + k < 64 * j + 8 * k + i ∧ 64 * i + 8 * j + k < 64 * k + 8 * i + j then 1 else 0
def l4 (i j k l : Nat) : Int := if 512 * i + 64 * j + 8 * k + l < 512 * j + 64 * k + 8 * l + i ∧ 512 * i + 64 * j + 8 * k + l < 512 * k + 64 * l + 8 * i + j ∧ 512 * i + 64 * j + 8 * k + l < 512 * l + 64 * i + 8 * j + k then 1 else 0
def l5 (i j k l m : Nat) : Int := if 4096 * i + 512 * j + 64 * k + 8 * l + m < 4096 * j + 512 * k + 64 * l + 8 * m + i ∧ 4096 * i + 512 * j + 64 * k + 8 * l + m < 4096 * k + 512 * l + 64 * m + 8 * i + j ∧
  4096 * i + 512 * j + 64 * k + 8 * l + m < 4096 * l + 512 * m + 64 * i + 8 * j + k ∧ 4096 * i + 512 * j + 64 * k + 8 * l + m < 4096 * m + 512 * i + 64 * j + 8 * k + l then 1 else 0
theorem part2 (i j : Nat) : (if i = j then (1 : Int) else 0) + l2 i j + l2 j i = 1 := by
  unfold l2
  repeat' split
  all_goals omega
theorem part3 {i j k : Nat} (hi : i < 8) (hj : j < 8) (hk : k < 8) : (if i = j ∧ j = k then (1 : Int) else 0) + l3 i j k + l3 j k i + l3 k i j = 1 := by
  have : ∀ i, i < 8 → ∀ j, j < 8 → ∀ k, k < 8 → (if i = j ∧ j = k then (1 : Int) else 0) + l3 i j k + l3 j k i + l3 k i j = 1 := by decide +kernel
  exact this i hi j hj k hk
theorem part4 {i j k l : Nat} (hi : i < 8) (hj : j < 8) (hk : k < 8) (hl : l < 8) : (if i = k ∧ j = l then (1 : Int) else 0) + l4 i j k l + l4 j k l i + l4 k l i j + l4 l i j k = 1 := by
  have : ∀ i, i < 8 → ∀ j, j < 8 → ∀ k, k < 8 → ∀ l, l < 8 → (if i = k ∧ j = l then (1 : Int) else 0) + l4 i j k l + l4 j k l i + l4 k l i j + l4 l i j k = 1 := by decide +kernel
  exact this i hi j hj k hk l hl
theorem part5 {i j k l m : Nat} (hi : i < 8) (hj : j < 8) (hk : k < 8) (hl : l < 8) (hm : m < 8) : (if i = j ∧ j = k ∧ k = l ∧ l = m then (1 : Int) else 0) + l5 i j k l m + l5 j k l m i + l5 k l m i j + l5 l m i j k + l5 m i j k l = 1 := by
  have : ∀ i, i < 8 → ∀ j, j < 8 → ∀ k, k < 8 → ∀ l, l < 8 → ∀ m, m < 8 → (if i = j ∧ j = k ∧ k = l ∧ l = m then (1 : Int) else 0) + l5 i j k l m + l5 j k l m i + l5 k l m i j + l5 l m i j k + l5 m i j k l = 1 := by decide +kernel
  exact this i hi j hj k hk l hl m hm
/-! ### sums over closed words -/
include hn in
theorem sum2 (T : Nat → Nat → Int) (hT : ∀ i j, T j i = T i j) : ∃ X, S2 n T = sm n (fun i => T i i) + 2 * X := by
  refine ⟨S2 n fun i j => l2 i j * T i j, ?_⟩
  have e : S2 n T = S2 n (fun i j => (if i = j then 1 else 0) * T i j + l2 i j * T i j + l2 j i * T j i) := S2_ext fun i j _ _ => by
    rw [hT i j, ← Int.add_mul, ← Int.add_mul, part2, Int.one_mul]
  rw [e, S2_add, S2_add, S2_rot fun i j => l2 i j * T i j]
  have d : S2 n (fun i j => (if i = j then 1 else 0) * T i j) = sm n fun i => T i i := sm_ext fun i hi => by
    rw [sm_ext (g := fun j => if j = i then T i j else 0) fun j _ => by by_cases h : i = j <;> simp [h, eq_comm], sm_delta hi]
  rw [d]; omega
include hn in
theorem sum3 (T : Nat → Nat → Nat → Int) (hT : ∀ i j k, T j k i = T i j k) : ∃ X, S3 n T = sm n (fun i => T i i i) + 3 * X := by
  refine ⟨S3 n fun i j k => l3 i j k * T i j k, ?_⟩
  have e : S3 n T = S3 n (fun i j k => (if i = j ∧ j = k then 1 else 0) * T i j k + l3 i j k * T i j k + l3 j k i * T j k i + l3 k i j * T k i j) := S3_ext fun i j k hi hj hk => by
    rw [show T k i j = T i j k from by rw [← hT k i j], hT i j k, ← Int.add_mul, ← Int.add_mul, ← Int.add_mul, part3 (by omega) (by omega) (by omega), Int.one_mul]
  have r1 := S3_rot (n := n) fun i j k => l3 i j k * T i j k
  have r2 := S3_rot (n := n) fun i j k => l3 j k i * T j k i
  rw [e, S3_add, S3_add, S3_add]
  have d : S3 n (fun i j k => (if i = j ∧ j = k then 1 else 0) * T i j k) = sm n fun i => T i i i := sm_ext fun i hi => by
    show sm n (fun j => sm n fun k => (if i = j ∧ j = k then 1 else 0) * T i j k) = _
    rw [sm_ext (g := fun j => if j = i then T i i i else 0) fun j hj => by
      by_cases h : j = i
      · subst h
        rw [if_pos rfl, sm_ext (g := fun k => if k = j then T j j k else 0) fun k _ => by by_cases h : j = k <;> simp [h, eq_comm], sm_delta hj]
      · rw [if_neg h, sm_ext (g := fun _ => 0) fun k _ => by simp [Ne.symm h], sm_zeros], sm_delta hi]
  rw [d]
  omega
include hn in
theorem sum4 (T : Nat → Nat → Nat → Nat → Int) (hT : ∀ i j k l, T j k l i = T i j k l) : ∃ X, S4 n T = S2 n (fun i j => T i j i j) + 4 * X := by
  refine ⟨S4 n fun i j k l => l4 i j k l * T i j k l, ?_⟩
  have e : S4 n T = S4 n (fun i j k l => (if i = k ∧ j = l then 1 else 0) * T i j k l + l4 i j k l * T i j k l + l4 j k l i * T j k l i + l4 k l i j * T k l i j + l4 l i j k * T l i j k) := S4_ext fun i j k l hi hj hk hl => by
    rw [show T l i j k = T i j k l from by rw [← hT l i j k], show T k l i j = T j k l i from hT j k l i, hT i j k l, ← Int.add_mul, ← Int.add_mul, ← Int.add_mul, ← Int.add_mul, part4 (by omega) (by omega) (by omega) (by omega), Int.one_mul]
  have r1 := S4_rot (n := n) fun i j k l => l4 i j k l * T i j k l
  have r2 := S4_rot (n := n) fun i j k l => l4 j k l i * T j k l i
  have r3 := S4_rot (n := n) fun i j k l => l4 k l i j * T k l i j
  rw [e, S4_add, S4_add, S4_add, S4_add]
  have d : S4 n (fun i j k l => (if i = k ∧ j = l then 1 else 0) * T i j k l) = S2 n fun i j => T i j i j := sm_ext fun i hi => sm_ext fun j hj => by
    show sm n (fun k => sm n fun l => (if i = k ∧ j = l then 1 else 0) * T i j k l) = _
    rw [sm_ext (g := fun k => if k = i then T i j i j else 0) fun k hk => by
      by_cases h : k = i
      · subst h
        rw [if_pos rfl, sm_ext (g := fun l => if l = j then T k j k l else 0) fun l _ => by by_cases h : j = l <;> simp [h, eq_comm], sm_delta hj]
      · rw [if_neg h, sm_ext (g := fun _ => 0) fun l _ => by simp [Ne.symm h], sm_zeros], sm_delta hi]
  rw [d]
  omega
include hn in
theorem sum5 (T : Nat → Nat → Nat → Nat → Nat → Int) (hT : ∀ i j k l m, T j k l m i = T i j k l m) : ∃ X, S5 n T = sm n (fun i => T i i i i i) + 5 * X := by
  refine ⟨S5 n fun i j k l m => l5 i j k l m * T i j k l m, ?_⟩
  have e : S5 n T = S5 n (fun i j k l m => (if i = j ∧ j = k ∧ k = l ∧ l = m then 1 else 0) * T i j k l m + l5 i j k l m * T i j k l m + l5 j k l m i * T j k l m i + l5 k l m i j * T k l m i j + l5 l m i j k * T l m i j k + l5 m i j k l * T m i j k l) := S5_ext fun i j k l m hi hj hk hl hm => by
    rw [show T m i j k l = T i j k l m from by rw [← hT m i j k l], show T l m i j k = T j k l m i from by rw [hT k l m i j, hT j k l m i], show T k l m i j = T j k l m i from hT j k l m i, hT i j k l m, ← Int.add_mul, ← Int.add_mul, ← Int.add_mul, ← Int.add_mul, ← Int.add_mul, part5 (by omega) (by omega) (by omega) (by omega) (by omega), Int.one_mul]
  have r1 := S5_rot (n := n) fun i j k l m => l5 i j k l m * T i j k l m
  have r2 := S5_rot (n := n) fun i j k l m => l5 j k l m i * T j k l m i
  have r3 := S5_rot (n := n) fun i j k l m => l5 k l m i j * T k l m i j
  have r4 := S5_rot (n := n) fun i j k l m => l5 l m i j k * T l m i j k
  rw [e, S5_add, S5_add, S5_add, S5_add, S5_add]
  have d : S5 n (fun i j k l m => (if i = j ∧ j = k ∧ k = l ∧ l = m then 1 else 0) * T i j k l m) = sm n fun i => T i i i i i := sm_ext fun i hi => by
    show sm n (fun j => S3 n fun k l m => (if i = j ∧ j = k ∧ k = l ∧ l = m then 1 else 0) * T i j k l m) = _
    rw [sm_ext (g := fun j => if j = i then T i i i i i else 0) fun j hj => by
      by_cases h : j = i
      · subst h
        rw [if_pos rfl]
        show sm n (fun k => sm n fun l => sm n fun m => (if j = j ∧ j = k ∧ k = l ∧ l = m then 1 else 0) * T j j k l m) = _
        rw [sm_ext (g := fun k => if k = j then T j j j j j else 0) fun k hk => by
          by_cases h : k = j
          · subst h
            rw [if_pos rfl, sm_ext (g := fun l => if l = k then T k k k k k else 0) fun l hl => by
              by_cases h : l = k
              · subst h
                rw [if_pos rfl, sm_ext (g := fun m => if m = l then T l l l l m else 0) fun m _ => by by_cases h : l = m <;> simp [h, eq_comm], sm_delta hl]
              · rw [if_neg h, sm_ext (g := fun _ => 0) fun m _ => by simp [Ne.symm h], sm_zeros], sm_delta hk]
          · rw [if_neg h, sm_ext (g := fun _ => 0) fun l _ => by rw [sm_ext (g := fun _ => 0) fun m _ => by simp [Ne.symm h], sm_zeros], sm_zeros], sm_delta hj]
      · rw [if_neg h]
        show sm n (fun k => sm n fun l => sm n fun m => (if i = j ∧ j = k ∧ k = l ∧ l = m then 1 else 0) * T i j k l m) = 0
        rw [sm_ext (g := fun _ => 0) fun k _ => by rw [sm_ext (g := fun _ => 0) fun l _ => by rw [sm_ext (g := fun _ => 0) fun m _ => by simp [Ne.symm h], sm_zeros], sm_zeros], sm_zeros], sm_delta hi]
  rw [d]
  omega
end
end Go.PV

/-
  Plain laws: what divides numbers of closed walks, in short.
  Conditions: none.
-/
set_option linter.all false
namespace Go.PV
/-! ### numbers of closed walks -/
section
variable {n : Nat}
theorem cw2 (B : Nat → Nat → Int) : cw n B 2 = S2 n fun i j => B i j * B j i := sm_ext fun i hi => by
  show sm n (fun k => pw n B 1 i k * B k i) = _
  exact sm_ext fun k _ => by rw [pw_one hi]
theorem pw_two (B : Nat → Nat → Int) {i : Nat} (hi : i < n) (k : Nat) : pw n B 2 i k = sm n fun j => B i j * B j k := by
  show sm n (fun j => pw n B 1 i j * B j k) = _
  exact sm_ext fun j _ => by rw [pw_one hi]
theorem pw_three (B : Nat → Nat → Int) {i : Nat} (hi : i < n) (l : Nat) : pw n B 3 i l = S2 n fun j k => B i j * B j k * B k l := by
  show sm n (fun k => pw n B 2 i k * B k l) = sm n fun j => sm n fun k => B i j * B j k * B k l
  rw [← sm_swap]
  exact sm_ext fun k _ => by rw [pw_two B hi, sm_mul']
theorem pw_four (B : Nat → Nat → Int) {i : Nat} (hi : i < n) (m : Nat) : pw n B 4 i m = S3 n fun j k l => B i j * B j k * B k l * B l m := by
  show sm n (fun l => pw n B 3 i l * B l m) = sm n fun j => sm n fun k => sm n fun l => B i j * B j k * B k l * B l m
  rw [sm_ext (g := fun j => sm n fun l => sm n fun k => B i j * B j k * B k l * B l m) fun j _ => sm_swap .., ← sm_swap]
  exact sm_ext fun l _ => by
    rw [pw_three B hi]
    show (sm n fun j => sm n fun k => B i j * B j k * B k l) * B l m = _
    rw [← sm_mul']
    exact sm_ext fun j _ => (sm_mul' ..).symm
theorem cw3 (B : Nat → Nat → Int) : cw n B 3 = S3 n fun i j k => B i j * B j k * B k i := sm_ext fun i hi => pw_three B hi i
theorem cw4 (B : Nat → Nat → Int) : cw n B 4 = S4 n fun i j k l => B i j * B j k * B k l * B l i := sm_ext fun i hi => pw_four B hi i
theorem cw5 (B : Nat → Nat → Int) : cw n B 5 = S5 n fun i j k l m => B i j * B j k * B k l * B l m * B m i := sm_ext fun i hi => by
  show sm n (fun m => pw n B 4 i m * B m i) = sm n fun j => sm n fun k => sm n fun l => sm n fun m => B i j * B j k * B k l * B l m * B m i
  rw [sm_ext (g := fun j => sm n fun k => sm n fun m => sm n fun l => B i j * B j k * B k l * B l m * B m i) fun j _ => sm_ext fun k _ => sm_swap .., sm_ext (g := fun j => sm n fun m => sm n fun k => sm n fun l => B i j * B j k * B k l * B l m * B m i) fun j _ => sm_swap .., ← sm_swap]
  refine sm_ext fun m _ => ?_
  rw [pw_four B hi]
  show (sm n fun j => sm n fun k => sm n fun l => B i j * B j k * B k l * B l m) * B m i = _
  rw [← sm_mul']
  refine sm_ext fun j _ => ?_
  rw [← sm_mul']
  exact sm_ext fun k _ => (sm_mul' ..).symm
theorem sq_even (a : Int) : (2 : Int) ∣ a * a - a := by
  have : a % 2 = 0 ∨ a % 2 = 1 := by omega
  rcases this with h | h
  · obtain ⟨q, hq⟩ : ∃ q, a = 2 * q := ⟨a / 2, by omega⟩
    exact ⟨2 * q * q - q, by rw [hq]; grind⟩
  · obtain ⟨q, hq⟩ : ∃ q, a = 2 * q + 1 := ⟨a / 2, by omega⟩
    exact ⟨2 * q * q + q, by rw [hq]; grind⟩
theorem cube_dvd (a : Int) : (3 : Int) ∣ a * a * a - a := by
  have : a % 3 = 0 ∨ a % 3 = 1 ∨ a % 3 = 2 := by omega
  rcases this with h | h | h
  · obtain ⟨q, hq⟩ : ∃ q, a = 3 * q := ⟨a / 3, by omega⟩
    exact ⟨9 * q * q * q - q, by rw [hq]; grind⟩
  · obtain ⟨q, hq⟩ : ∃ q, a = 3 * q + 1 := ⟨a / 3, by omega⟩
    exact ⟨9 * q * q * q + 9 * q * q + 2 * q, by rw [hq]; grind⟩
  · obtain ⟨q, hq⟩ : ∃ q, a = 3 * q + 2 := ⟨a / 3, by omega⟩
    exact ⟨9 * q * q * q + 18 * q * q + 11 * q + 2, by rw [hq]; grind⟩
theorem four_dvd (a : Int) : (4 : Int) ∣ a * a * (a * a) - a * a := by
  have : a % 2 = 0 ∨ a % 2 = 1 := by omega
  rcases this with h | h
  · obtain ⟨q, hq⟩ : ∃ q, a = 2 * q := ⟨a / 2, by omega⟩
    exact ⟨4 * q * q * q * q - q * q, by rw [hq]; grind⟩
  · obtain ⟨q, hq⟩ : ∃ q, a = 2 * q + 1 := ⟨a / 2, by omega⟩
    exact ⟨(2 * q + 1) * (2 * q + 1) * (q * q + q), by rw [hq]; grind⟩
theorem five_dvd (a : Int) : (5 : Int) ∣ a * a * a * a * a - a := by
  have : a % 5 = 0 ∨ a % 5 = 1 ∨ a % 5 = 2 ∨ a % 5 = 3 ∨ a % 5 = 4 := by omega
  have key : ∀ r q : Int, a = 5 * q + r → (5 : Int) ∣ r * r * r * r * r - r → (5 : Int) ∣ a * a * a * a * a - a := fun r q hq ⟨x, hx⟩ =>
    ⟨625 * q * q * q * q * q + 625 * q * q * q * q * r + 250 * q * q * q * r * r + 50 * q * q * r * r * r + 5 * q * r * r * r * r - q + x, by rw [hq]; grind⟩
  rcases this with h | h | h | h | h
  · exact key 0 (a / 5) (by omega) ⟨0, by decide⟩
  · exact key 1 (a / 5) (by omega) ⟨0, by decide⟩
  · exact key 2 (a / 5) (by omega) ⟨6, by decide⟩
  · exact key 3 (a / 5) (by omega) ⟨48, by decide⟩
  · exact key 4 (a / 5) (by omega) ⟨204, by decide⟩
variable (hn : n ≤ 8)
include hn
theorem gauss2 (B : Nat → Nat → Int) : (2 : Int) ∣ cw n B 2 - tr n B := by
  obtain ⟨X, hX⟩ := sum2 hn (fun i j => B i j * B j i) fun i j => Int.mul_comm ..
  have h := sm_dvd (n := n) (d := 2) (f := fun i => B i i * B i i - B i i) fun i _ => sq_even _
  rw [sm_sub] at h
  rw [cw2, hX]
  unfold tr
  obtain ⟨y, hy⟩ := h
  exact ⟨X + y, by omega⟩
theorem gauss3 (B : Nat → Nat → Int) : (3 : Int) ∣ cw n B 3 - tr n B := by
  obtain ⟨X, hX⟩ := sum3 hn (fun i j k => B i j * B j k * B k i) fun i j k => by grind
  have h := sm_dvd (n := n) (d := 3) (f := fun i => B i i * B i i * B i i - B i i) fun i _ => cube_dvd _
  rw [sm_sub] at h
  rw [cw3, hX]
  unfold tr
  obtain ⟨y, hy⟩ := h
  exact ⟨X + y, by omega⟩
theorem gauss5 (B : Nat → Nat → Int) : (5 : Int) ∣ cw n B 5 - tr n B := by
  obtain ⟨X, hX⟩ := sum5 hn (fun i j k l m => B i j * B j k * B k l * B l m * B m i) fun i j k l m => by grind
  have h := sm_dvd (n := n) (d := 5) (f := fun i => B i i * B i i * B i i * B i i * B i i - B i i) fun i _ => five_dvd _
  rw [sm_sub] at h
  rw [cw5, hX]
  unfold tr
  obtain ⟨y, hy⟩ := h
  exact ⟨X + y, by omega⟩
theorem gauss4 (B : Nat → Nat → Int) : (4 : Int) ∣ cw n B 4 - cw n B 2 := by
  obtain ⟨X, hX⟩ := sum4 hn (fun i j k l => B i j * B j k * B k l * B l i) fun i j k l => by grind
  have hx : ∀ i j, B i j * B j i * (B i j * B j i) - B i j * B j i = 2 * ((B i j * B j i * (B i j * B j i) - B i j * B j i) / 2) := fun i j => (Int.mul_ediv_cancel' (sq_even _)).symm
  obtain ⟨Y, hY⟩ := sum2 hn (fun i j => (B i j * B j i * (B i j * B j i) - B i j * B j i) / 2) fun i j => by
    show (B j i * B i j * (B j i * B i j) - B j i * B i j) / 2 = _
    rw [Int.mul_comm (B j i)]
  have e : S2 n (fun i j => B i j * B j i * B i j * B j i) - cw n B 2 = 2 * S2 n (fun i j => (B i j * B j i * (B i j * B j i) - B i j * B j i) / 2) := by
    rw [cw2]
    unfold S2
    rw [← sm_sub, ← sm_mul]
    refine sm_ext fun i _ => ?_
    rw [← sm_sub, ← sm_mul]
    refine sm_ext fun j _ => ?_
    rw [← hx]; grind
  have e2 : 2 * sm n (fun i => (B i i * B i i * (B i i * B i i) - B i i * B i i) / 2) = sm n fun i => B i i * B i i * (B i i * B i i) - B i i * B i i := by
    rw [← sm_mul]; exact sm_ext fun i _ => (hx i i).symm
  have h := sm_dvd (n := n) (d := 4) (f := fun i => B i i * B i i * (B i i * B i i) - B i i * B i i) fun i _ => four_dvd _
  obtain ⟨z, hz⟩ := h
  rw [cw4, hX]
  exact ⟨X + Y + z, by omega⟩
/-- What the numbers of cycles are reckoned from is divided by their lengths. -/
theorem gauss6 (A : Nat → Nat → Int) : (6 : Int) ∣ cw n A 6 - cw n A 3 - cw n A 2 + cw n A 1 := by
  have h1 := gauss2 hn (pw n A 3)
  have h2 := gauss2 hn A
  have h3 := gauss3 hn (pw n A 2)
  have h4 := gauss3 hn A
  rw [← cw_mul 3 2, show tr n (pw n A 3) = cw n A 3 from rfl] at h1
  rw [← cw_mul 2 3, show tr n (pw n A 2) = cw n A 2 from rfl] at h3
  rw [← cw_one] at h2 h4
  have e1 : 3 * 2 = 6 := rfl
  have e2 : 2 * 3 = 6 := rfl
  rw [e1] at h1
  rw [e2] at h3
  omega
end
end Go.PV

/-
  Plain laws: closed walks on both sides.
  Conditions: none.
-/
set_option linter.all false
namespace Go.PV
theorem capMul_cap {S w a : Int} (hS : 0 ≤ S) (hw : 0 ≤ w) (h5 : 0 ≤ a) (h6 : a ≤ 9) : capMul 1000000001 (capAt S) (capAt w) a = capAt (S + w * a) := by
  have hs : 0 ≤ capAt S ∧ capAt S ≤ 1000000001 := by unfold capAt; split <;> omega
  have hc : 0 ≤ capAt w ∧ capAt w ≤ 1000000001 := by unfold capAt; split <;> omega
  have h1 : 0 ≤ capAt w * a := Int.mul_nonneg hc.1 h5
  have h2 : capAt w * a ≤ capAt w * 9 := Int.mul_le_mul_of_nonneg_left h6 hc.1
  unfold capMul
  rw [w64_id (n := capAt w * a) (by omega) (by omega), w64_id (n := capAt S + capAt w * a) (by omega) (by omega)]
  by_cases ha : a = 0
  · subst ha
    simp only [Int.mul_zero, Int.add_zero]
    rw [if_neg (by omega)]
  · have h3 : capAt w * 1 ≤ capAt w * a := Int.mul_le_mul_of_nonneg_left (by omega) hc.1
    have h4 : w * 1 ≤ w * a := Int.mul_le_mul_of_nonneg_left (by omega) hw
    by_cases hw2 : 1000000001 < w
    · have e : capAt w = 1000000001 := by unfold capAt; rw [if_pos hw2]
      rw [e] at h3 ⊢
      have e2 : capAt (S + w * a) = 1000000001 := by unfold capAt; rw [if_pos (by omega)]
      rw [e2]
      split
      · rfl
      · omega
    · have e : capAt w = w := by unfold capAt; rw [if_neg hw2]
      rw [e] at h1 ⊢
      unfold capAt
      (repeat' split) <;> omega
section
variable {n : Nat} {G : Nat → Nat → Int}
theorem powN_cap (hG : ∀ i j, i < n → j < n → 0 ≤ G i j ∧ G i j ≤ 9) : ∀ (d : Nat) {i j : Nat}, i < n → j < n → powN n G 1000000001 d i j = capAt (pw n G d i j)
  | 0, i, j, _, _ => by
    show idM i j = _
    unfold idM capAt
    simp only [pw]
    (repeat' split) <;> omega
  | d + 1, i, j, hi, hj => by
    have hA : ∀ i j, i < n → j < n → 0 ≤ G i j := fun i j hi hj => (hG i j hi hj).1
    show foldN n (fun acc k => capMul 1000000001 acc (powN n G 1000000001 d i k) (G k j)) 0 = capAt (sm n fun k => pw n G d i k * G k j)
    have : ∀ m, m ≤ n → foldN m (fun acc k => capMul 1000000001 acc (powN n G 1000000001 d i k) (G k j)) 0 = capAt (sm m fun k => pw n G d i k * G k j) := by
      intro m
      induction m with
      | zero => intro _; rfl
      | succ m ih =>
        intro hm
        rw [foldN_succ, ih (by omega), sm_succ, powN_cap hG d hi (show m < n by omega)]
        exact capMul_cap (sm_nonneg fun k hk => Int.mul_nonneg (pw_nonneg hA d hi (by omega)) (hA k j (by omega) hj)) (pw_nonneg hA d hi (by omega)) (hG m j (by omega) hj).1 (hG m j (by omega) hj).2
    exact this n (Nat.le_refl n)
theorem spec_closed_eq (hn : n ≤ 8) (hG : ∀ i j, i < n → j < n → 0 ≤ G i j ∧ G i j ≤ 9) (d : Nat) (hd : d ≤ 1048576) : spec_grClosed (mat n n G) (d : Int) = some (capAt (cw n G d)) := by
  have hA : ∀ i j, i < n → j < n → 0 ≤ G i j := fun i j hi hj => (hG i j hi hj).1
  have hx := loop_idx (body := spec_grClosed_b1 (mat n n (powN n G 1000000001 d))) n (fun i => (capAt (sm i fun i => pw n G d i i), (i : Int))) (capAt (cw n G d)) (fun i hi => by
    have h0 : 0 ≤ sm i fun i => pw n G d i i := sm_nonneg fun k hk => pw_nonneg hA d (by omega) (by omega)
    have h1 := pw_nonneg hA d hi hi
    have h2 : 0 ≤ capAt (sm i fun i => pw n G d i i) ∧ capAt (sm i fun i => pw n G d i i) ≤ 1000000001 := by unfold capAt; split <;> omega
    have h3 : 0 ≤ capAt (pw n G d i i) ∧ capAt (pw n G d i i) ≤ 1000000001 := by unfold capAt; split <;> omega
    simp only [spec_grClosed_b1, mat_len, idxO_mat hi, idxO_tab hi, Option.bind_some, powN_cap hG d hi hi, spec_grCap_eq, w64_nat (show i < 9223372036854775807 by omega), show ((i : Int) < (n : Int)) from by omega, decide_true, if_true, sm_succ]
    rw [w64_id (by omega) (by omega)]
    congr 3
    unfold capAt
    (repeat' split) <;> omega) (by
    simp only [spec_grClosed_b1, mat_len, Int.lt_irrefl, decide_false, Bool.false_eq_true, if_false]
    rfl)
  unfold spec_grClosed
  rw [spec_grPower_eq hn d hd, Option.bind_some]
  have hx' : loopO (spec_grClosed_b1 (mat n n (powN n G 1000000001 d))) (0, 0) = some (capAt (cw n G d)) := hx
  rw [hx']
  rfl
theorem impl_closed_eq (hn : n ≤ 8) (hG : ∀ i j, i < n → j < n → 0 ≤ G i j ∧ G i j ≤ 9) (d : Nat) (hd : d ≤ 1048576) : impl_closedWalks (mat n n G) (d : Int) = some (if 1000000000 < cw n G d then (0, false) else (cw n G d, true)) := by
  have hA : ∀ i j, i < n → j < n → 0 ≤ G i j := fun i j hi hj => (hG i j hi hj).1
  have hb : ∀ m, m ≤ n → 0 ≤ (sm m fun i => capAt (pw n G d i i)) ∧ (sm m fun i => capAt (pw n G d i i)) ≤ 1000000001 * m := by
    intro m
    induction m with
    | zero => intro _; simp [sm_zero]
    | succ m ih =>
      intro hm
      have h1 := ih (by omega)
      have h3 : 0 ≤ capAt (pw n G d m m) ∧ capAt (pw n G d m m) ≤ 1000000001 := by have := pw_nonneg hA d (show m < n by omega) (show m < n by omega); unfold capAt; split <;> omega
      rw [sm_succ]
      omega
  have hx := loop_idx (body := impl_closedWalks_b1 (mat n n (powN n G 1000000001 d))) n (fun i => (sm i fun i => capAt (pw n G d i i), (i : Int))) (sm n fun i => capAt (pw n G d i i)) (fun i hi => by
    have h1 := hb i (by omega)
    have h2 := hb (i + 1) (by omega)
    rw [sm_succ] at h2
    simp only [impl_closedWalks_b1, mat_len, idxO_mat hi, idxO_tab hi, Option.bind_some, powN_cap hG d hi hi, w64_nat (show i < 9223372036854775807 by omega), show ((i : Int) < (n : Int)) from by omega, decide_true, if_true, sm_succ]
    rw [w64_id (by omega) (by omega)]) (by
    simp only [impl_closedWalks_b1, mat_len, Int.lt_irrefl, decide_false, Bool.false_eq_true, if_false])
  have hx' : loopO (impl_closedWalks_b1 (mat n n (powN n G 1000000001 d))) (0, 0) = some (sm n fun i => capAt (pw n G d i i)) := hx
  unfold impl_closedWalks impl_power
  rw [impl_powerUpTo_eq hn d hd]
  simp only [Option.bind_some]
  rw [hx', Option.bind_some]
  unfold impl_closedWalks_k1
  have hle : (sm n fun i => capAt (pw n G d i i)) ≤ cw n G d := sm_le fun i hi => by unfold capAt; split <;> omega
  by_cases h : 1000000000 < cw n G d
  · rw [if_pos h]
    have : 1000000000 < sm n fun i => capAt (pw n G d i i) := by
      refine Classical.byContradiction fun hno => ?_
      have : (sm n fun i => capAt (pw n G d i i)) = cw n G d := sm_ext fun i hi => by
        have := sm_one hi (f := fun i => capAt (pw n G d i i)) fun k hk => by have := pw_nonneg hA d hk hk; unfold capAt; split <;> omega
        by_cases h2 : 1000000001 < pw n G d i i
        · have e : capAt (pw n G d i i) = 1000000001 := by unfold capAt; rw [if_pos h2]
          simp only [e] at this
          omega
        · unfold capAt; rw [if_neg h2]
      omega
    simp [this]
  · rw [if_neg h]
    have e : (sm n fun i => capAt (pw n G d i i)) = cw n G d := sm_ext fun i hi => by
      have := sm_one hi (f := fun i => pw n G d i i) fun k hk => pw_nonneg hA d hk hk
      have h2 : (sm n fun i => pw n G d i i) = cw n G d := rfl
      unfold capAt
      rw [if_neg]
      rw [h2] at this
      omega
    rw [e]
    simp [h]
end
end Go.PV

/-
  Plain laws: marks on lists, and that they are held.
  Conditions: none.
-/
set_option linter.all false
namespace Go.PV
section
variable {α : Type}
theorem idxO_set {l : List α} {i : Nat} {x : α} (h : i < l.length) : idxO (l.set i x) (i : Int) = some x := by
  rw [idxO_nat, List.getElem?_set]; simp [h]
/-- Marks: the list with f c, f (c + w), .. -/
def marks (w : Nat) (f : Int → α) (n : Nat) (k : Int) : List α := tab n fun i => f (k + (w : Int) * i)
theorem marks_len (w : Nat) (f : Int → α) (n : Nat) (k : Int) : (marks w f n k).length = n := tab_len _ _
theorem mark_loop {body : (List α × Int × Int) → Option ((List α × Int × Int) ⊕ (List α × Int))} (w : Nat) (f : Int → α) (xs : List α) (k : Int) (hk : 0 ≤ k) (hk2 : k + w * xs.length ≤ 4611686018427387904)
    (h : ∀ (l : List α) (i : Nat) (c : Int), i < l.length → i < 4611686018427387904 → 0 ≤ c → c + w ≤ 4611686018427387904 → body (l, c, (i : Int)) = some (.inl (l.set i (f c), c + w, ((i + 1 : Nat) : Int))))
    (hl : xs.length ≤ 4611686018427387904) (h2 : ∀ l c, body (l, c, (l.length : Int)) = some (.inr (l, c))) : loopO body (xs, k, 0) = some (marks w f xs.length k, k + w * xs.length) := by
  have hx := loop_idx (body := body) xs.length (fun i => ((marks w f xs.length k).take i ++ xs.drop i, k + (w : Int) * i, (i : Int))) (marks w f xs.length k, k + w * xs.length) (fun i hi => by
    have hb : (w : Int) * i + w ≤ w * xs.length := by
      have : (w : Int) * ((i + 1 : Nat) : Int) ≤ w * xs.length := Int.mul_le_mul_of_nonneg_left (by omega) (by omega)
      rw [Int.natCast_add, Int.mul_add] at this
      simpa using this
    have hb0 : 0 ≤ (w : Int) * i := Int.mul_nonneg (by omega) (by omega)
    rw [h _ i _ (by simp [marks_len]; omega) (by omega) (by omega) (by omega)]
    rw [set_at _ _ _ (f (k + (w : Int) * i)) (by unfold marks; rw [tab_get hi]) hi]
    congr 3
    rw [Int.natCast_add, Int.mul_add]
    simp
    omega) (by
    have e : (marks w f xs.length k).take xs.length ++ xs.drop xs.length = marks w f xs.length k := by
      rw [List.drop_of_length_le (Nat.le_refl _), List.append_nil, List.take_of_length_le (by rw [marks_len]; exact Nat.le_refl _)]
    rw [e]
    have := h2 (marks w f xs.length k) (k + w * xs.length)
    rw [marks_len] at this
    exact this)
  simpa using hx
theorem held_loop {Y : Type} {body : (Int × Int) → Option ((Int × Int) ⊕ (Y ⊕ Int))} (w : Nat) (n : Nat) (k : Int) (hk : 0 ≤ k) (hk2 : k + w * n ≤ 4611686018427387904) (hn : n ≤ 4611686018427387904)
    (h : ∀ (i : Nat), i < n → 0 ≤ k + (w : Int) * i → k + (w : Int) * i + w ≤ 4611686018427387904 → body (k + (w : Int) * i, (i : Int)) = some (.inl (k + (w : Int) * i + w, ((i + 1 : Nat) : Int))))
    (h2 : ∀ c, body (c, (n : Int)) = some (.inr (.inr c))) : loopO body (k, 0) = some (.inr (k + w * n)) := by
  have hx := loop_idx (body := body) n (fun i => (k + (w : Int) * i, (i : Int))) (.inr (k + w * n)) (fun i hi => by
    have hb : (w : Int) * i + w ≤ w * n := by
      have : (w : Int) * ((i + 1 : Nat) : Int) ≤ w * n := Int.mul_le_mul_of_nonneg_left (by omega) (by omega)
      rw [Int.natCast_add, Int.mul_add] at this
      simpa using this
    have hb0 : 0 ≤ (w : Int) * i := Int.mul_nonneg (by omega) (by omega)
    rw [h i hi (by omega) (by omega)]
    congr 3
    rw [Int.natCast_add, Int.mul_add]
    simp
    omega) (h2 _)
  simpa using hx
end
/-! ### numbers -/
def markI (n : Nat) (k : Int) : List Int := marks 1 (fun c => c) n k
theorem laws_markIntS_eq (xs : List Int) (k : Int) (hk : 0 ≤ k) (hk2 : k + xs.length ≤ 4611686018427387904) : laws_markIntS xs k = some (k + xs.length, markI xs.length k) := by
  unfold laws_markIntS
  rw [mark_loop 1 (fun c => c) xs k hk (by omega) (fun l i c h1 h3 h4 h5 => by
    simp only [laws_markIntS_b1, idxO_lt h1, Option.bind_some, show ((i : Int) < (l.length : Int)) from by omega, decide_true, if_true, Int.toNat_natCast, w64_nat (show i < 9223372036854775807 by omega), w64_id (n := c + 1) (by omega) (by omega)]
    rfl) (by omega) (fun l c => by simp [laws_markIntS_b1])]
  simp [laws_markIntS_k1, markI]
theorem laws_heldIntS_eq (n : Nat) (k : Int) (hk : 0 ≤ k) (hk2 : k + n ≤ 4611686018427387904) : laws_heldIntS (markI n k) k = some (k + n) := by
  unfold laws_heldIntS
  rw [held_loop (body := laws_heldIntS_b1 (markI n k)) 1 n k hk (by omega) (by omega) (fun i hi h3 h4 => by
    have e : idxO (markI n k) (i : Int) = some (k + ((1 : Nat) : Int) * (i : Int)) := by unfold markI marks; rw [idxO_tab hi]
    simp only [laws_heldIntS_b1, show (markI n k).length = n from marks_len _ _ _ _, e, Option.bind_some, show ((i : Int) < (n : Int)) from by omega, decide_true, if_true, w64_nat (show i < 9223372036854775807 by omega), bne_self_eq_false, Bool.false_eq_true, if_false, w64_id (n := k + ((1 : Nat) : Int) * (i : Int) + 1) (by omega) (by omega)]
    rfl) (fun c => by simp [laws_heldIntS_b1, show (markI n k).length = n from marks_len _ _ _ _])]
  simp [laws_heldIntS_k1]
theorem laws_markIntSS_eq (g : List (List Int)) (hg : sized g) : ∃ k' g', laws_markIntSS g 1 = some (k', g') ∧ 0 ≤ k' ∧ k' ≤ 1099511627777 := by
  obtain ⟨hl, hr⟩ := hg
  obtain ⟨y, h1, h2⟩ := loop_run (body := laws_markIntSS_b1) (fun x => ∃ i : Nat, x.2.2 = i ∧ i ≤ g.length ∧ x.1.length = g.length ∧ (∀ j, i ≤ j → x.1[j]? = g[j]?) ∧ 0 ≤ x.2.1 ∧ x.2.1 ≤ 1 + 1048576 * (i : Int)) (fun x => g.length - x.2.2.toNat) (fun y => 0 ≤ y.2 ∧ y.2 ≤ 1099511627777)
    (fun ⟨l, c, t⟩ ⟨i, e1, e2, e3, e4, e5, e6⟩ => by
      simp only at e1 e3 e4 e5 e6
      subst e1
      by_cases hi : i < g.length
      · left
        have hrow := hr g[i] (List.getElem_mem hi)
        have hli : i < l.length := by omega
        have hget : l[i] = g[i] := by
          have := e4 i (Nat.le_refl i)
          rw [List.getElem?_eq_getElem hli, List.getElem?_eq_getElem hi] at this
          exact Option.some.inj this
        refine ⟨(l.set i (markI g[i].length c), c + g[i].length, ((i + 1 : Nat) : Int)), ?_, ⟨i + 1, rfl, hi, by simpa using e3, fun j hj => ?_, by show 0 ≤ c + (g[i].length : Int); omega, by show c + (g[i].length : Int) ≤ _; omega⟩, by simp only [Int.toNat_natCast]; omega⟩
        · simp only [laws_markIntSS_b1, show ((i : Int) < (l.length : Int)) from by omega, decide_true, if_true, idxO_lt hli, hget, Option.bind_some, laws_markIntS_eq g[i] c e5 (by omega), Int.toNat_natCast, w64_nat (show i < 9223372036854775807 by omega)]
        · rw [List.getElem?_set_ne (by omega)]; exact e4 j (by omega)
      · right
        refine ⟨(l, c), by simp [laws_markIntSS_b1, show ¬ ((i : Int) < (l.length : Int)) by omega], e5, by show c ≤ _; omega⟩) (g, 1, 0) ⟨0, rfl, by omega, rfl, fun j _ => rfl, by show (0 : Int) ≤ 1; omega, by show (1 : Int) ≤ _; omega⟩
  refine ⟨y.2, y.1, ?_, h2⟩
  unfold laws_markIntSS
  rw [h1]
  rfl
/-! ### fractions -/
def markR (n : Nat) (k : Int) : List (Int × Int) := marks 2 (fun c => (c, c + 1)) n k
theorem laws_markRatS_eq (xs : List (Int × Int)) (k : Int) (hk : 0 ≤ k) (hk2 : k + 2 * xs.length ≤ 4611686018427387904) : laws_markRatS xs k = some (k + 2 * xs.length, markR xs.length k) := by
  unfold laws_markRatS
  rw [mark_loop 2 (fun c => (c, c + 1)) xs k hk (by omega) (fun l i c h1 h3 h4 h5 => by
    have h6 : ∀ x, i < (l.set i x).length := fun x => by simpa using h1
    simp only [laws_markRatS_b1, idxO_lt h1, idxO_set h1, List.set_set, Option.bind_some, show ((i : Int) < (l.length : Int)) from by omega, decide_true, if_true, Int.toNat_natCast, w64_nat (show i < 9223372036854775807 by omega), w64_id (n := c + 1) (by omega) (by omega), w64_id (n := c + 1 + 1) (by omega) (by omega)]
    congr 3
    simp; omega) (by omega) (fun l c => by simp [laws_markRatS_b1])]
  simp [laws_markRatS_k1, markR]
theorem laws_heldRatS_eq (n : Nat) (k : Int) (hk : 0 ≤ k) (hk2 : k + 2 * n ≤ 4611686018427387904) : laws_heldRatS (markR n k) k = some (k + 2 * n) := by
  unfold laws_heldRatS
  rw [held_loop (body := laws_heldRatS_b1 (markR n k)) 2 n k hk (by omega) (by omega) (fun i hi h3 h4 => by
    have e : idxO (markR n k) (i : Int) = some (k + ((2 : Nat) : Int) * (i : Int), k + ((2 : Nat) : Int) * (i : Int) + 1) := by unfold markR marks; rw [idxO_tab hi]
    simp only [laws_heldRatS_b1, show (markR n k).length = n from marks_len _ _ _ _, e, Option.bind_some, show ((i : Int) < (n : Int)) from by omega, decide_true, if_true, w64_nat (show i < 9223372036854775807 by omega), bne_self_eq_false, Bool.false_eq_true, if_false, w64_id (n := k + ((2 : Nat) : Int) * (i : Int) + 1) (by omega) (by omega), w64_id (n := k + ((2 : Nat) : Int) * (i : Int) + 1 + 1) (by omega) (by omega)]
    congr 3; simp; omega) (fun c => by simp [laws_heldRatS_b1, show (markR n k).length = n from marks_len _ _ _ _])]
  simp [laws_heldRatS_k1]
end Go.PV

/-
  Plain laws: numbers of cycles.
  Conditions: none.
-/
set_option linter.all false
namespace Go.PV
theorem loop_inv {X Y : Type} {body : X → Option (X ⊕ Y)} (I : X → Prop) (R : Y → Prop) (h : ∀ x o, I x → body x = some o → match o with | .inl x' => I x' | .inr y => R y) {x0 : X} {y : Y} (h0 : I x0) (e : loopO body x0 = some y) : R y := by
  obtain ⟨n, hn⟩ := loopO_some.1 e
  clear e
  induction n generalizing x0 with
  | zero => cases hn
  | succ n ih =>
    simp only [iterO] at hn
    cases hb : body x0 with
    | none => rw [hb] at hn; cases hn
    | some o =>
      have := h x0 o h0 hb
      rw [hb] at hn
      cases o with
      | inl x' => exact ih this hn
      | inr y' => simp only [Option.some.injEq] at hn; subst hn; exact this
def mu (k : Nat) : Int := [0, 1, -1, -1, 0, -1, 1, -1, 0, 0, 1, -1, 0].getD k 0
theorem impl_moebius_eq {k : Nat} (h1 : 1 ≤ k) (h2 : k ≤ 12) : impl_moebius (k : Int) = some (mu k) := by
  have go : ∀ (k : Nat) (y : Int ⊕ Int), iterO impl_moebius_b1 20 ((k : Int), 1, 2) = some y → Sum.elim id id y = mu k → impl_moebius (k : Int) = some (mu k) := fun k y h h3 => by
    unfold impl_moebius
    rw [loopO_some.2 ⟨20, h⟩]
    cases y with
    | inl a => simp only [Option.bind_some, Sum.elim_inl, id] at h3 ⊢; rw [h3]
    | inr a => simp only [Option.bind_some, Sum.elim_inr, id, impl_moebius_k1] at h3 ⊢; rw [h3]
  match k, h1, h2 with
  | 1, _, _ => exact go 1 (.inr 1) rfl rfl
  | 2, _, _ => exact go 2 (.inr (-1)) rfl rfl
  | 3, _, _ => exact go 3 (.inr (-1)) rfl rfl
  | 4, _, _ => exact go 4 (.inl 0) rfl rfl
  | 5, _, _ => exact go 5 (.inr (-1)) rfl rfl
  | 6, _, _ => exact go 6 (.inr 1) rfl rfl
  | 7, _, _ => exact go 7 (.inr (-1)) rfl rfl
  | 8, _, _ => exact go 8 (.inl 0) rfl rfl
  | 9, _, _ => exact go 9 (.inl 0) rfl rfl
  | 10, _, _ => exact go 10 (.inr 1) rfl rfl
  | 11, _, _ => exact go 11 (.inr (-1)) rfl rfl
  | 12, _, _ => exact go 12 (.inl 0) rfl rfl
/-- What the number of cycles of length n is reckoned from. -/
def cyN (c : Nat → Int) (n : Nat) : Int := sm (n + 1) fun e => if n % e = 0 then mu (n / e) * c e else 0
theorem cy_inv (c : Nat → Int) {n : Nat} (h1 : 1 ≤ n) (h2 : n ≤ 12) : sm n (fun e => if n % e = 0 then cyN c e else 0) + cyN c n = c n := by
  have : n = 1 ∨ n = 2 ∨ n = 3 ∨ n = 4 ∨ n = 5 ∨ n = 6 ∨ n = 7 ∨ n = 8 ∨ n = 9 ∨ n = 10 ∨ n = 11 ∨ n = 12 := by omega
  rcases this with rfl | rfl | rfl | rfl | rfl | rfl | rfl | rfl | rfl | rfl | rfl | rfl <;> (simp [cyN, sm_succ, sm_zero, mu] <;> omega)
theorem cy_dvd {n : Nat} (hn : n ≤ 8) (A : Nat → Nat → Int) {e : Nat} (h1 : 1 ≤ e) (h2 : e ≤ 6) : (e : Int) ∣ cyN (cw n A) e := by
  have g2 := gauss2 hn A
  have g3 := gauss3 hn A
  have g4 := gauss4 hn A
  have g5 := gauss5 hn A
  have g6 := gauss6 hn A
  rw [← cw_one] at g2 g3 g5
  have : e = 1 ∨ e = 2 ∨ e = 3 ∨ e = 4 ∨ e = 5 ∨ e = 6 := by omega
  rcases this with rfl | rfl | rfl | rfl | rfl | rfl <;> (simp [cyN, sm_succ, sm_zero, mu] <;> omega)
theorem mu_bd (k : Nat) : -1 ≤ mu k ∧ mu k ≤ 1 := by
  by_cases h : k < 13
  · have : ∀ k, k < 13 → -1 ≤ mu k ∧ mu k ≤ 1 := by decide
    exact this k h
  · have : mu k = 0 := by unfold mu; rw [List.getD_eq_getElem?_getD, List.getElem?_eq_none (by simp; omega)]; rfl
    rw [this]; decide
theorem cy_bd {c : Nat → Int} {n : Nat} : ∀ m, (∀ e, e < m → n % e = 0 → 0 ≤ c e ∧ c e ≤ 1000000000) → -1000000000 * (m : Int) ≤ (sm m fun e => if n % e = 0 then mu (n / e) * c e else 0) ∧ (sm m fun e => if n % e = 0 then mu (n / e) * c e else 0) ≤ 1000000000 * (m : Int)
  | 0, _ => by simp [sm_zero]
  | m + 1, h => by
    have ih := cy_bd m fun e he hd => h e (by omega) hd
    rw [sm_succ]
    have : -1000000000 ≤ (if n % m = 0 then mu (n / m) * c m else 0) ∧ (if n % m = 0 then mu (n / m) * c m else 0) ≤ 1000000000 := by
      split
      · rename_i hd
        have h1 := h m (by omega) hd
        have h2 := mu_bd (n / m)
        have : mu (n / m) = -1 ∨ mu (n / m) = 0 ∨ mu (n / m) = 1 := by omega
        rcases this with e | e | e <;> rw [e] <;> omega
      · omega
    omega
section
variable {n : Nat} {G : Nat → Nat → Int} (hn : n ≤ 8) (hG : ∀ i j, i < n → j < n → 0 ≤ G i j ∧ G i j ≤ 9)
include hn hG
theorem cw_ge (d : Nat) : 0 ≤ cw n G d := sm_nonneg fun i hi => pw_nonneg (fun i j hi hj => (hG i j hi hj).1) d hi hi
theorem cw_le_of {e m : Nat} (hm : 1 ≤ m) (hd : m % e = 0) : cw n G e ≤ cw n G m := cw_dvd (fun i j hi hj => (hG i j hi hj).1) (Nat.dvd_of_mod_eq_zero hd) hm
theorem impl_cycleCount_eq {m : Nat} (h1 : 1 ≤ m) (h2 : m ≤ 12) : impl_cycleCount (mat n n G) (m : Int) = some (if 1000000000 < cw n G m then (0, false) else (Int.tdiv (cyN (cw n G) m) (m : Int), true)) := by
  obtain ⟨y, e1, e2⟩ := loop_run (body := impl_cycleCount_b1 (mat n n G) (m : Int)) (fun s => ∃ i : Nat, i ≤ m ∧ s = (sm (i + 1) (fun e => if m % e = 0 then mu (m / e) * cw n G e else 0), ((i + 1 : Nat) : Int)) ∧ ∀ e, e ≤ i → m % e = 0 → cw n G e ≤ 1000000000) (fun s => m + 1 - s.2.toNat)
    (fun y => y = if 1000000000 < cw n G m then .inl (0, false) else .inr (cyN (cw n G) m)) (fun s ⟨i, hi, e, hq⟩ => by
      subst e
      by_cases hlt : i < m
      · have ht : Int.tmod (m : Int) ((i + 1 : Nat) : Int) = ((m % (i + 1) : Nat) : Int) := rfl
        have hdv : Int.tdiv (m : Int) ((i + 1 : Nat) : Int) = ((m / (i + 1) : Nat) : Int) := rfl
        simp only [impl_cycleCount_b1, show (((i + 1 : Nat) : Int) ≤ (m : Int)) from by omega, decide_true, if_true]
        rw [guardO_bind_pos (by omega), ht]
        by_cases hd : m % (i + 1) = 0
        · have hb : (((m % (i + 1) : Nat) : Int) == 0) = true := by rw [hd]; rfl
          have hle := cw_le_of hn hG h1 hd
          rw [if_pos hb, impl_closed_eq hn hG (i + 1) (by omega), Option.bind_some]
          by_cases hc : 1000000000 < cw n G (i + 1)
          · right
            refine ⟨.inl (0, false), by rw [if_pos hc]; rfl, by rw [if_pos (by omega)]⟩
          · left
            have hdd := Nat.div_pos (show i + 1 ≤ m by omega) (show 0 < i + 1 by omega)
            have hdl := Nat.div_le_self m (i + 1)
            have b1 := cy_bd (c := cw n G) (n := m) (i + 1) fun e he hd => ⟨cw_ge hn hG e, hq e (by omega) hd⟩
            have b2 := cy_bd (c := cw n G) (n := m) (i + 1 + 1) fun e he hd => ⟨cw_ge hn hG e, by
              by_cases h : e = i + 1
              · subst h; omega
              · exact hq e (by omega) hd⟩
            rw [sm_succ, if_pos hd] at b2
            refine ⟨_, by
              rw [if_neg hc]
              simp only [Bool.not_true, Bool.false_eq_true, if_false, hdv]
              rw [w64_id (n := ((m / (i + 1) : Nat) : Int)) (by omega) (by omega), impl_moebius_eq hdd (by omega), Option.bind_some, w64_id (n := mu (m / (i + 1)) * cw n G (i + 1)) (by omega) (by omega), w64_id (by omega) (by omega), w64_nat (show i + 1 < 9223372036854775807 by omega)], ⟨i + 1, by omega, by rw [sm_succ (i + 1) (fun e => if m % e = 0 then mu (m / e) * cw n G e else 0), if_pos hd], fun e he hd => by
              by_cases h : e = i + 1
              · subst h; omega
              · exact hq e (by omega) hd⟩, by simp only [Int.toNat_natCast]; omega⟩
        · have hb : (((m % (i + 1) : Nat) : Int) == 0) = false := by rw [beq_eq_false_iff_ne]; exact fun h => hd (by exact_mod_cast h)
          left
          refine ⟨_, by rw [hb]; simp only [Bool.false_eq_true, if_false]; rw [w64_nat (show i + 1 < 9223372036854775807 by omega)], ⟨i + 1, by omega, by rw [sm_succ (i + 1) (fun e => if m % e = 0 then mu (m / e) * cw n G e else 0), if_neg hd, Int.add_zero], fun e he hd' => by
              by_cases h : e = i + 1
              · subst h; exact absurd hd' hd
              · exact hq e (by omega) hd'⟩, by simp only [Int.toNat_natCast]; omega⟩
      · have : i = m := by omega
        subst this
        right
        have h3 := hq i (Nat.le_refl _) (Nat.mod_self i)
        exact ⟨.inr (cyN (cw n G) i), by simp only [impl_cycleCount_b1, show ¬ (((i + 1 : Nat) : Int) ≤ (i : Int)) from by omega, decide_false, Bool.false_eq_true, if_false]; rfl, by rw [if_neg (by omega)]⟩) (0, 1) ⟨0, by omega, by
        have : ¬ (m % 0 = 0) := by rw [Nat.mod_zero]; omega
        rw [sm_succ, if_neg this]; rfl, fun e he hd => by
        have : e = 0 := by omega
        subst this
        rw [Nat.mod_zero] at hd; omega⟩
  unfold impl_cycleCount
  rw [e1, e2]
  by_cases hc : 1000000000 < cw n G m
  · rw [if_pos hc, if_pos hc]; rfl
  · rw [if_neg hc, if_neg hc]
    have b := cy_bd (c := cw n G) (n := m) (m + 1) fun e he hd => ⟨cw_ge hn hG e, by have := cw_le_of hn hG h1 hd; omega⟩
    have b' : -1000000000 * ((m + 1 : Nat) : Int) ≤ cyN (cw n G) m ∧ cyN (cw n G) m ≤ 1000000000 * ((m + 1 : Nat) : Int) := b
    have hab : (Int.tdiv (cyN (cw n G) m) (m : Int)).natAbs ≤ (cyN (cw n G) m).natAbs := by rw [Int.natAbs_tdiv]; exact Nat.div_le_self _ _
    simp only [Option.bind_some, Sum.elim_inr, impl_cycleCount_k1]
    rw [guardO_bind_pos (by omega), w64_id (by omega) (by omega)]
end
end Go.PV

/-
  Plain laws: numbers of cycles on the reference's side; the laws.
  Conditions: none.
-/
set_option linter.all false
namespace Go.PV
/-- The number of cycles of length m, or -1. -/
def zc (n : Nat) (G : Nat → Nat → Int) (m : Nat) : Int := if 1000000000 < cw n G m then -1 else Int.tdiv (cyN (cw n G) m) (m : Int)
def zS (n : Nat) (G : Nat → Nat → Int) (m i : Nat) : Int × Int := (cw n G m - sm (i + 1) (fun e => if m % e = 0 then cyN (cw n G) e else 0), ((i + 1 : Nat) : Int))
section
variable {n : Nat} {G : Nat → Nat → Int} (hn : n ≤ 8) (hG : ∀ i j, i < n → j < n → 0 ≤ G i j ∧ G i j ≤ 9)
include hn hG
theorem cyN_bd {m e : Nat} (h1 : 1 ≤ m) (hm : cw n G m ≤ 1000000000) (hd : m % e = 0) (he : e ≤ 12) (he1 : 1 ≤ e) : -13000000000 ≤ cyN (cw n G) e ∧ cyN (cw n G) e ≤ 13000000000 := by
  have h3 := cw_le_of hn hG h1 hd
  have b := cy_bd (c := cw n G) (n := e) (e + 1) fun e' he hd' => ⟨cw_ge hn hG e', by have := cw_le_of hn hG he1 hd'; omega⟩
  have b' : -1000000000 * ((e + 1 : Nat) : Int) ≤ cyN (cw n G) e ∧ cyN (cw n G) e ≤ 1000000000 * ((e + 1 : Nat) : Int) := b
  omega
theorem cyS_bd {m : Nat} (h1 : 1 ≤ m) (h2 : m ≤ 12) (hm : cw n G m ≤ 1000000000) : ∀ k, k ≤ m → -13000000000 * (k : Int) ≤ (sm k fun e => if m % e = 0 then cyN (cw n G) e else 0) ∧ (sm k fun e => if m % e = 0 then cyN (cw n G) e else 0) ≤ 13000000000 * (k : Int)
  | 0, _ => by simp [sm_zero]
  | k + 1, h => by
    have ih := cyS_bd h1 h2 hm k (by omega)
    rw [sm_succ]
    have : -13000000000 ≤ (if m % k = 0 then cyN (cw n G) k else 0) ∧ (if m % k = 0 then cyN (cw n G) k else 0) ≤ 13000000000 := by
      split
      · rename_i hd
        by_cases hk : k = 0
        · subst hk; rw [Nat.mod_zero] at hd; omega
        · exact cyN_bd hn hG h1 hm hd (by omega) (by omega)
      · omega
    omega
theorem zc_mul {m e : Nat} (h1 : 1 ≤ m) (h2 : m ≤ 12) (hm : cw n G m ≤ 1000000000) (hd : m % e = 0) (he1 : 1 ≤ e) (he : e < m) : (e : Int) * zc n G e = cyN (cw n G) e := by
  have h3 := cw_le_of hn hG h1 hd
  have h6 : e ≤ 6 := by
    obtain ⟨k, rfl⟩ := Nat.dvd_of_mod_eq_zero hd
    have : 2 ≤ k := by
      match k with
      | 0 => omega
      | 1 => omega
      | k + 2 => omega
    have := Nat.mul_le_mul_left e this
    omega
  unfold zc
  rw [if_neg (by omega)]
  exact Int.mul_tdiv_cancel' (cy_dvd hn G he1 h6)
theorem z_step {rc : List (List Int) → Int → Option Int} {m i : Nat} (h1 : 1 ≤ m) (h2 : m ≤ 12) (hm : cw n G m ≤ 1000000000) (hi : i + 1 < m) (hr : m % (i + 1) = 0 → rc (mat n n G) ((i + 1 : Nat) : Int) = some (zc n G (i + 1))) :
    spec_zeCycles_r_b1 rc (mat n n G) (m : Int) (zS n G m i) = some (.inl (zS n G m (i + 1))) := by
  have ht : Int.tmod (m : Int) ((i + 1 : Nat) : Int) = ((m % (i + 1) : Nat) : Int) := rfl
  have b1 := cyS_bd hn hG h1 h2 hm (i + 1) (by omega)
  have b2 := cyS_bd hn hG h1 h2 hm (i + 1 + 1) (by omega)
  have g0 := cw_ge hn hG m
  unfold zS
  simp only [spec_zeCycles_r_b1, show (((i + 1 : Nat) : Int) < (m : Int)) from by omega, decide_true, if_true]
  rw [guardO_bind_pos (by omega), ht]
  by_cases hd : m % (i + 1) = 0
  · have hb : (((m % (i + 1) : Nat) : Int) == 0) = true := by rw [hd]; rfl
    have hz := zc_mul hn hG h1 h2 hm hd (by omega) hi
    have hc := cyN_bd hn hG h1 hm hd (by omega) (by omega)
    rw [if_pos hb, hr hd, Option.bind_some, hz]
    rw [sm_succ (i + 1) (fun e => if m % e = 0 then cyN (cw n G) e else 0), if_pos hd] at b2 ⊢
    rw [w64_id (n := cyN (cw n G) (i + 1)) (by omega) (by omega), w64_id (by omega) (by omega), w64_nat (show i + 1 < 9223372036854775807 by omega)]
    congr 3
    omega
  · have hb : (((m % (i + 1) : Nat) : Int) == 0) = false := by rw [beq_eq_false_iff_ne]; exact fun h => hd (by exact_mod_cast h)
    rw [hb]
    simp only [Bool.false_eq_true, if_false]
    rw [sm_succ (i + 1) (fun e => if m % e = 0 then cyN (cw n G) e else 0), if_neg hd, w64_nat (show i + 1 < 9223372036854775807 by omega), Int.add_zero]
theorem z_end {rc : List (List Int) → Int → Option Int} {m i : Nat} (h1 : 1 ≤ m) (h2 : m ≤ 12) (hi : i + 1 = m) : spec_zeCycles_r_b1 rc (mat n n G) (m : Int) (zS n G m i) = some (.inr (cyN (cw n G) m)) := by
  have := cy_inv (cw n G) h1 h2
  unfold zS
  rw [hi]
  simp only [spec_zeCycles_r_b1, Int.lt_irrefl, decide_false, Bool.false_eq_true, if_false]
  congr 2
  omega
theorem z_0 {m : Nat} (h1 : 1 ≤ m) : zS n G m 0 = (cw n G m, 1) := by
  have : ¬ (m % 0 = 0) := by rw [Nat.mod_zero]; omega
  unfold zS
  rw [sm_succ, if_neg this, sm_zero]
  simp
theorem z_fin {m : Nat} (h1 : 1 ≤ m) (h2 : m ≤ 12) (hm : cw n G m ≤ 1000000000) : spec_zeCycles_r_k1 (m : Int) (cyN (cw n G) m) = some (zc n G m) := by
  have b := cyN_bd hn hG h1 hm (Nat.mod_self m) h2 h1
  have hab : (Int.tdiv (cyN (cw n G) m) (m : Int)).natAbs ≤ (cyN (cw n G) m).natAbs := by rw [Int.natAbs_tdiv]; exact Nat.div_le_self _ _
  unfold spec_zeCycles_r_k1 zc
  rw [guardO_bind_pos (by omega), w64_id (by omega) (by omega), if_neg (by omega)]
theorem z_cap {m : Nat} : (capAt (cw n G m) > 1000000000) ↔ 1000000000 < cw n G m := by
  unfold capAt; split <;> omega
theorem z_all {rc : List (List Int) → Int → Option Int} {m : Nat} (h1 : 1 ≤ m) (h2 : m ≤ 12) (hr : ∀ e, 1 ≤ e → e < m → rc (mat n n G) (e : Int) = some (zc n G e)) : spec_zeCycles_r rc (mat n n G) (m : Int) = some (zc n G m) := by
  unfold spec_zeCycles_r
  rw [spec_closed_eq hn hG m (by omega), Option.bind_some]
  by_cases hc : 1000000000 < cw n G m
  · rw [if_pos (by simpa using (z_cap hn hG).2 hc)]
    unfold zc; rw [if_pos hc]
  · rw [if_neg (by simpa using fun h => hc ((z_cap hn hG).1 h))]
    have e : capAt (cw n G m) = cw n G m := by unfold capAt; rw [if_neg (by omega)]
    have hx := loop_idx (body := spec_zeCycles_r_b1 rc (mat n n G) (m : Int)) (m - 1) (zS n G m) (cyN (cw n G) m) (fun i hi => z_step hn hG h1 h2 (by omega) (by omega) fun _ => hr (i + 1) (by omega) (by omega)) (z_end hn hG h1 h2 (by omega))
    rw [z_0 hn hG h1] at hx
    rw [e, hx, Option.bind_some, z_fin hn hG h1 h2 (by omega)]
theorem z_some {rc : List (List Int) → Int → Option Int} {m : Nat} (h1 : 1 ≤ m) (h2 : m ≤ 12) (hr : ∀ e r, 1 ≤ e → e < m → rc (mat n n G) (e : Int) = some r → r = zc n G e) {r : Int} (h : spec_zeCycles_r rc (mat n n G) (m : Int) = some r) : r = zc n G m := by
  unfold spec_zeCycles_r at h
  rw [spec_closed_eq hn hG m (by omega), Option.bind_some] at h
  by_cases hc : 1000000000 < cw n G m
  · rw [if_pos (by simpa using (z_cap hn hG).2 hc)] at h
    unfold zc; rw [if_pos hc]; exact (Option.some.inj h).symm
  · rw [if_neg (by simpa using fun h => hc ((z_cap hn hG).1 h))] at h
    have e : capAt (cw n G m) = cw n G m := by unfold capAt; rw [if_neg (by omega)]
    rw [e, ← z_0 hn hG h1] at h
    obtain ⟨y, e1, h⟩ := Option.bind_eq_some_iff.1 h
    have := loop_inv (fun s => ∃ i, i + 1 ≤ m ∧ s = zS n G m i) (fun y => y = cyN (cw n G) m) (fun s o ⟨i, hi, e2⟩ hb => by
      subst e2
      by_cases hlt : i + 1 < m
      · have key : (m % (i + 1) = 0 → rc (mat n n G) ((i + 1 : Nat) : Int) = some (zc n G (i + 1))) → o = .inl (zS n G m (i + 1)) := fun h3 => by
          rw [z_step hn hG h1 h2 (by omega) hlt h3] at hb
          exact (Option.some.inj hb).symm
        have : o = .inl (zS n G m (i + 1)) := by
          cases hv : rc (mat n n G) ((i + 1 : Nat) : Int) with
          | some v =>
            have := hr (i + 1) v (by omega) hlt hv
            exact key fun _ => by rw [hv, this]
          | none =>
            by_cases hd : m % (i + 1) = 0
            · exfalso
              have ht : Int.tmod (m : Int) ((i + 1 : Nat) : Int) = ((m % (i + 1) : Nat) : Int) := rfl
              have hbb : (((m % (i + 1) : Nat) : Int) == 0) = true := by rw [hd]; rfl
              unfold zS at hb
              simp only [spec_zeCycles_r_b1, show (((i + 1 : Nat) : Int) < (m : Int)) from by omega, decide_true, if_true] at hb
              rw [guardO_bind_pos (by omega), ht, if_pos hbb, hv] at hb
              cases hb
            · exact key fun h => absurd h hd
        subst this
        exact ⟨i + 1, by omega, rfl⟩
      · rw [z_end hn hG h1 h2 (by omega)] at hb
        obtain rfl := Option.some.inj hb
        rfl) ⟨0, by omega, rfl⟩ e1
    rw [this, z_fin hn hG h1 h2 (by omega)] at h
    exact (Option.some.inj h).symm
theorem spec_zeCycles_eq {m : Nat} (h1 : 1 ≤ m) (h2 : m ≤ 12) : spec_zeCycles (mat n n G) (m : Int) = some (zc n G m) := by
  have tot : ∀ (k m : Nat), 1 ≤ m → m ≤ 12 → m ≤ k → spec_zeCycles_f k (mat n n G) (m : Int) = some (zc n G m) := by
    intro k
    induction k with
    | zero => intro m a b c; omega
    | succ k ih => intro m a b c; exact z_all hn hG a b fun e e1 e2 => ih e e1 (by omega) (by omega)
  have par : ∀ (k m : Nat) (r : Int), 1 ≤ m → m ≤ 12 → spec_zeCycles_f k (mat n n G) (m : Int) = some r → r = zc n G m := by
    intro k
    induction k with
    | zero => intro m r _ _ h; cases h
    | succ k ih => intro m r a b h; exact z_some hn hG a b (fun e r e1 e2 h => ih e r e1 (by omega) h) h
  exact fuelO_eq m (tot m m h1 h2 (Nat.le_refl m)) fun k r h => par k m r h1 h2 h
end
end Go.PV

/-
  Plain laws: numbers of cycles are not negative.
  Conditions: none.
-/
set_option linter.all false
namespace Go.PV
section
variable {n : Nat} {A : Nat → Nat → Int} (hA : ∀ i j, i < n → j < n → 0 ≤ A i j)
include hA
theorem pw_step (d : Nat) {i j l : Nat} (hi : i < n) (hj : j < n) (hl : l < n) : pw n A d i l * A l j ≤ pw n A (d + 1) i j :=
  sm_one hl (f := fun l => pw n A d i l * A l j) fun k hk => Int.mul_nonneg (pw_nonneg hA d hi hk) (hA k j hk hj)
theorem pw_odd {i j : Nat} (hi : i < n) (hj : j < n) (h : 1 ≤ A i j) (h' : 1 ≤ A j i) : ∀ k, A i j ≤ pw n A (2 * k + 1) i j
  | 0 => by rw [show 2 * 0 + 1 = 1 from rfl, pw_one hi]; exact Int.le_refl _
  | k + 1 => by
    have ih := pw_odd hi hj h h' k
    have s1 := pw_step hA (2 * k + 1) hi hi hj
    have s2 := pw_step hA (2 * k + 1 + 1) hi hj hi
    have m1 := Int.mul_le_mul (show (1 : Int) ≤ pw n A (2 * k + 1) i j by omega) h' (by omega) (by omega)
    have m2 := Int.mul_le_mul_of_nonneg_right (show (1 : Int) ≤ pw n A (2 * k + 1 + 1) i i by omega) (show 0 ≤ A i j by omega)
    have e : 2 * (k + 1) + 1 = 2 * k + 1 + 1 + 1 := by omega
    rw [e]
    omega
theorem pw_diag {i : Nat} (hi : i < n) : ∀ k, 1 ≤ k → A i i ≤ pw n A k i i := by
  intro k
  induction k with
  | zero => intro h; omega
  | succ k ih =>
    intro _
    by_cases h0 : k = 0
    · subst h0; rw [Nat.zero_add, pw_one hi]; exact Int.le_refl _
    · have h1 := ih (by omega)
      have h2 := pw_step hA k hi hi hi
      have h3 := hA i i hi hi
      by_cases h4 : A i i = 0
      · rw [h4]; exact pw_nonneg hA _ hi hi
      · have h5 := Int.mul_le_mul h1 (show (1 : Int) ≤ A i i by omega) (by omega) (by omega)
        omega
theorem cw_odd (k : Nat) : cw n A 2 - tr n A ≤ cw n A ((2 * k + 1) * 2) - cw n A (2 * k + 1) := by
  rw [cw_mul, cw2, cw2, show cw n A (2 * k + 1) = tr n (pw n A (2 * k + 1)) from rfl]
  have d : ∀ B : Nat → Nat → Int, S2 n (fun i j => B i j * B j i) - tr n B = S2 n fun i j => B i j * B j i - if j = i then B i i else 0 := fun B => by
    unfold S2 tr
    rw [← sm_sub]
    refine sm_ext fun i hi => ?_
    rw [sm_sub, sm_delta hi fun _ => B i i]
  rw [d, d]
  refine sm_le fun i hi => sm_le fun j hj => ?_
  have p1 := pw_nonneg hA (2 * k + 1) hi hj
  have p2 := pw_nonneg hA (2 * k + 1) hj hi
  have a1 := hA i j hi hj
  have a2 := hA j i hj hi
  by_cases h : j = i
  · subst h
    simp only [if_true]
    have h1 := pw_diag hA hj (2 * k + 1) (by omega)
    by_cases h0 : A j j = 0
    · rw [h0]
      by_cases h3 : pw n A (2 * k + 1) j j = 0
      · rw [h3]; decide
      · have := Int.mul_le_mul_of_nonneg_left (show (1 : Int) ≤ pw n A (2 * k + 1) j j by omega) p1
        omega
    · have m1 := Int.mul_le_mul_of_nonneg_left h1 (show 0 ≤ A j j - 1 by omega)
      have m2 := Int.mul_le_mul_of_nonneg_right (show A j j - 1 ≤ pw n A (2 * k + 1) j j - 1 by omega) p1
      grind
  · simp only [if_neg h]
    by_cases h0 : A i j = 0 ∨ A j i = 0
    · have : A i j * A j i = 0 := by rcases h0 with h0 | h0 <;> rw [h0] <;> simp
      rw [this]
      have := Int.mul_nonneg p1 p2
      omega
    · have b1 := pw_odd hA hi hj (by omega) (by omega) k
      have b2 := pw_odd hA hj hi (by omega) (by omega) k
      have := Int.mul_le_mul b1 b2 a2 p1
      omega
/-- The number of cycles of length m is not negative. -/
theorem cyN_nonneg {m : Nat} (h1 : 1 ≤ m) (h2 : m ≤ 12) : 0 ≤ cyN (cw n A) m := by
  have hB : ∀ i j, i < n → j < n → 0 ≤ pw n A 2 i j := fun i j hi hj => pw_nonneg hA 2 hi hj
  have o3 := cw_odd hA 1
  have o5 := cw_odd hA 2
  have o6 := cw_odd hB 1
  rw [← cw_mul 2 2, ← cw_mul 2 ((2 * 1 + 1) * 2), ← cw_mul 2 (2 * 1 + 1), show tr n (pw n A 2) = cw n A 2 from rfl] at o6
  rw [← cw_one] at o3 o5
  have dv : ∀ d m : Nat, m % d = 0 → 1 ≤ m → cw n A d ≤ cw n A m := fun d m h hm => cw_dvd hA (Nat.dvd_of_mod_eq_zero h) hm
  have n1 : 0 ≤ cw n A 1 := sm_nonneg fun i hi => pw_nonneg hA 1 hi hi
  have d2 := dv 1 2 rfl (by omega)
  have d3 := dv 1 3 rfl (by omega)
  have d4 := dv 2 4 rfl (by omega)
  have d5 := dv 1 5 rfl (by omega)
  have d7 := dv 1 7 rfl (by omega)
  have d8 := dv 4 8 rfl (by omega)
  have d9 := dv 3 9 rfl (by omega)
  have d11 := dv 1 11 rfl (by omega)
  have : m = 1 ∨ m = 2 ∨ m = 3 ∨ m = 4 ∨ m = 5 ∨ m = 6 ∨ m = 7 ∨ m = 8 ∨ m = 9 ∨ m = 10 ∨ m = 11 ∨ m = 12 := by omega
  rcases this with rfl | rfl | rfl | rfl | rfl | rfl | rfl | rfl | rfl | rfl | rfl | rfl <;> (simp [cyN, sm_succ, sm_zero, mu] at * <;> omega)
end
theorem both_CycleCount (g : List (List Int)) (m : Int) (hg : sized g) : ∃ r, spec_CycleCount g m = some r ∧ impl_CycleCount g m = some r := by
  unfold spec_CycleCount impl_CycleCount impl_isLength
  rw [spec_grGood_eq g hg, impl_isGraph_eq g hg]
  cases h : isGraph g
  · exact ⟨_, rfl, rfl⟩
  · obtain ⟨n, G, h1, h2, rfl, hG⟩ := isGraph_mat h
    simp only [Option.bind_some, Bool.not_true, Bool.false_eq_true, if_false, if_true, spec_zeLength, spec_l1In_eq, impl_within_eq]
    cases hm : inB 1 12 m
    · exact ⟨_, rfl, rfl⟩
    · obtain ⟨m1, m2⟩ := inB_iff.1 hm
      obtain ⟨k, rfl⟩ := Int.eq_ofNat_of_zero_le (show 0 ≤ m by omega)
      simp only [Bool.not_true, Bool.false_eq_true, if_false, Option.bind_some, spec_zeCycles_eq h2 hG (show 1 ≤ k by omega) (show k ≤ 12 by omega), impl_cycleCount_eq h2 hG (show 1 ≤ k by omega) (show k ≤ 12 by omega)]
      unfold zc
      by_cases hc : 1000000000 < cw n G k
      · simp only [if_pos hc]
        exact ⟨_, rfl, rfl⟩
      · simp only [if_neg hc]
        have hz : 0 ≤ Int.tdiv (cyN (cw n G) k) (k : Int) := Int.tdiv_nonneg (cyN_nonneg (fun i j hi hj => (hG i j hi hj).1) (by omega) (by omega)) (by omega)
        have : decide (Int.tdiv (cyN (cw n G) k) (k : Int) < 0) = false := by simp; omega
        rw [this]
        exact ⟨_, rfl, rfl⟩
theorem laws_FnExactCycleCount_eq (g : List (List Int)) (m : Int) (hl : g.length ≤ 9223372036854775807) (hr : ∀ row ∈ g, row.length ≤ 9223372036854775807) : laws_FnExactCycleCount g m = some true := by
  obtain ⟨v, h1, h2⟩ := laws_szIntSS_eq g hl hr
  unfold laws_FnExactCycleCount
  rw [h1, Option.bind_some]
  by_cases hv : v < 0
  · simp [hv]
  · have hs := h2 (by omega)
    obtain ⟨r, e1, e2⟩ := both_CycleCount g m hs
    simp only [hv, decide_false, Bool.false_eq_true, if_false, laws_toIntSS_eq g hs, e1, e2, laws_eqIntSS_self g hs, Option.bind_some]
    simp
end Go.PV

/-
  Plain laws: tables of numbers of cycles.
  Conditions: none.
-/
set_option linter.all false
namespace Go.PV
section
variable {n : Nat} {G : Nat → Nat → Int} (hn : n ≤ 8) (hG : ∀ i j, i < n → j < n → 0 ≤ G i j ∧ G i j ≤ 9)
include hn hG
def zT (n : Nat) (G : Nat → Nat → Int) (i : Nat) : Int := Int.tdiv (cyN (cw n G) (i + 1)) ((i + 1 : Nat) : Int)
theorem both_table {m : Nat} (h2 : m ≤ 12) : ∃ r ok, r.length ≤ 12 ∧
    ((loopO (spec_CycleTable_b1 (mat n n G) (m : Int)) ([], 1)).bind fun y => (Sum.elim (fun p => some p) (fun p => spec_CycleTable_k1 p)) y) = some (r, ok) ∧
    ((loopO (impl_CycleTable_b1 (mat n n G) (m : Int)) ([], 1)).bind fun y => (Sum.elim (fun p => some p) (fun p => impl_CycleTable_k1 p)) y) = some (r, ok) := by
  by_cases hall : ∃ e, 1 ≤ e ∧ e ≤ m ∧ 1000000000 < cw n G e
  · refine ⟨[], false, by simp, ?_, ?_⟩
    · obtain ⟨y, e1, e2⟩ := loop_run (body := spec_CycleTable_b1 (mat n n G) (m : Int)) (fun s => ∃ i : Nat, i ≤ m ∧ s = (tab i (zT n G), ((i + 1 : Nat) : Int)) ∧ ∀ e, 1 ≤ e → e ≤ i → cw n G e ≤ 1000000000) (fun s => m + 1 - s.2.toNat) (fun y => y = .inl ([], false)) (fun s ⟨i, hi, e, hq⟩ => by
        subst e
        by_cases hlt : i < m
        · simp only [spec_CycleTable_b1, show (((i + 1 : Nat) : Int) ≤ (m : Int)) from by omega, decide_true, if_true, spec_zeCycles_eq hn hG (show 1 ≤ i + 1 by omega) (show i + 1 ≤ 12 by omega), Option.bind_some]
          by_cases hc : 1000000000 < cw n G (i + 1)
          · right
            refine ⟨_, ?_, rfl⟩
            unfold zc
            rw [if_pos hc]
            rfl
          · left
            have hz : 0 ≤ Int.tdiv (cyN (cw n G) (i + 1)) ((i + 1 : Nat) : Int) := Int.tdiv_nonneg (cyN_nonneg (fun i j hi hj => (hG i j hi hj).1) (by omega) (by omega)) (by omega)
            unfold zc
            rw [if_neg hc, if_neg (by simp only [decide_eq_true_eq]; omega)]
            refine ⟨_, by rw [guardO_bind_pos (by simp [tab_len]; omega), w64_nat (show i + 1 < 9223372036854775807 by omega)], ⟨i + 1, by omega, by rw [← tab_succ i (zT n G)]; rfl, fun e a b => by
              by_cases h : e = i + 1
              · subst h; omega
              · exact hq e a (by omega)⟩, by simp only [Int.toNat_natCast]; omega⟩
        · exfalso
          obtain ⟨e, a, b, c⟩ := hall
          have := hq e a (by omega)
          omega) ([], 1) ⟨0, by omega, rfl, fun e a b => by omega⟩
      rw [e1, e2]; rfl
    · obtain ⟨y, e1, e2⟩ := loop_run (body := impl_CycleTable_b1 (mat n n G) (m : Int)) (fun s => ∃ i : Nat, i ≤ m ∧ s = (tab i (zT n G), ((i + 1 : Nat) : Int)) ∧ ∀ e, 1 ≤ e → e ≤ i → cw n G e ≤ 1000000000) (fun s => m + 1 - s.2.toNat) (fun y => y = .inl ([], false)) (fun s ⟨i, hi, e, hq⟩ => by
        subst e
        by_cases hlt : i < m
        · simp only [impl_CycleTable_b1, show (((i + 1 : Nat) : Int) ≤ (m : Int)) from by omega, decide_true, if_true, impl_cycleCount_eq hn hG (show 1 ≤ i + 1 by omega) (show i + 1 ≤ 12 by omega), Option.bind_some]
          by_cases hc : 1000000000 < cw n G (i + 1)
          · right
            refine ⟨_, ?_, rfl⟩
            rw [if_pos hc]
            rfl
          · left
            rw [if_neg hc]
            refine ⟨_, by
              simp only [Bool.not_true, Bool.false_eq_true, if_false]
              rw [guardO_bind_pos (by simp [tab_len]; omega), w64_nat (show i + 1 < 9223372036854775807 by omega)], ⟨i + 1, by omega, by rw [← tab_succ i (zT n G)]; rfl, fun e a b => by
              by_cases h : e = i + 1
              · subst h; omega
              · exact hq e a (by omega)⟩, by simp only [Int.toNat_natCast]; omega⟩
        · exfalso
          obtain ⟨e, a, b, c⟩ := hall
          have := hq e a (by omega)
          omega) ([], 1) ⟨0, by omega, rfl, fun e a b => by omega⟩
      rw [e1, e2]; rfl
  · have hq : ∀ e, 1 ≤ e → e ≤ m → cw n G e ≤ 1000000000 := fun e a b => by
      refine Classical.byContradiction fun h => hall ⟨e, a, b, by omega⟩
    refine ⟨tab m (zT n G), true, by rw [tab_len]; omega, ?_, ?_⟩
    · have hx := loop_idx (body := spec_CycleTable_b1 (mat n n G) (m : Int)) m (fun i => (tab i (zT n G), ((i + 1 : Nat) : Int))) (.inr (tab m (zT n G))) (fun i hi => by
        have hz : 0 ≤ Int.tdiv (cyN (cw n G) (i + 1)) ((i + 1 : Nat) : Int) := Int.tdiv_nonneg (cyN_nonneg (fun i j hi hj => (hG i j hi hj).1) (by omega) (by omega)) (by omega)
        have hc := hq (i + 1) (by omega) (by omega)
        simp only [spec_CycleTable_b1, show (((i + 1 : Nat) : Int) ≤ (m : Int)) from by omega, decide_true, if_true, spec_zeCycles_eq hn hG (show 1 ≤ i + 1 by omega) (show i + 1 ≤ 12 by omega), Option.bind_some]
        unfold zc
        rw [if_neg (show ¬ 1000000000 < cw n G (i + 1) by omega), if_neg (by simp only [decide_eq_true_eq]; omega), guardO_bind_pos (by simp [tab_len]; omega), w64_nat (show i + 1 < 9223372036854775807 by omega), ← tab_succ i (zT n G)]
        rfl) (by simp only [spec_CycleTable_b1, show ¬ (((m + 1 : Nat) : Int) ≤ (m : Int)) from by omega, decide_false, Bool.false_eq_true, if_false])
      have hx' : loopO (spec_CycleTable_b1 (mat n n G) (m : Int)) ([], 1) = some (.inr (tab m (zT n G))) := hx
      rw [hx']; rfl
    · have hx := loop_idx (body := impl_CycleTable_b1 (mat n n G) (m : Int)) m (fun i => (tab i (zT n G), ((i + 1 : Nat) : Int))) (.inr (tab m (zT n G))) (fun i hi => by
        have hc := hq (i + 1) (by omega) (by omega)
        simp only [impl_CycleTable_b1, show (((i + 1 : Nat) : Int) ≤ (m : Int)) from by omega, decide_true, if_true, impl_cycleCount_eq hn hG (show 1 ≤ i + 1 by omega) (show i + 1 ≤ 12 by omega), Option.bind_some]
        rw [if_neg (show ¬ 1000000000 < cw n G (i + 1) by omega)]
        simp only [Bool.not_true, Bool.false_eq_true, if_false]
        rw [guardO_bind_pos (by simp [tab_len]; omega), w64_nat (show i + 1 < 9223372036854775807 by omega), ← tab_succ i (zT n G)]
        rfl) (by simp only [impl_CycleTable_b1, show ¬ (((m + 1 : Nat) : Int) ≤ (m : Int)) from by omega, decide_false, Bool.false_eq_true, if_false])
      have hx' : loopO (impl_CycleTable_b1 (mat n n G) (m : Int)) ([], 1) = some (.inr (tab m (zT n G))) := hx
      rw [hx']; rfl
end
theorem both_CycleTable (g : List (List Int)) (m : Int) (hg : sized g) : ∃ r ok, r.length ≤ 12 ∧ spec_CycleTable g m = some (r, ok) ∧ impl_CycleTable g m = some (r, ok) := by
  unfold spec_CycleTable impl_CycleTable impl_isLength
  rw [spec_grGood_eq g hg, impl_isGraph_eq g hg]
  cases h : isGraph g
  · exact ⟨[], false, by simp, rfl, rfl⟩
  · obtain ⟨n, G, h1, h2, rfl, hG⟩ := isGraph_mat h
    simp only [Option.bind_some, Bool.not_true, Bool.false_eq_true, if_false, if_true, spec_zeLength, spec_l1In_eq, impl_within_eq]
    cases hm : inB 1 12 m
    · exact ⟨[], false, by simp, rfl, rfl⟩
    · obtain ⟨m1, m2⟩ := inB_iff.1 hm
      obtain ⟨k, rfl⟩ := Int.eq_ofNat_of_zero_le (show 0 ≤ m by omega)
      obtain ⟨r, ok, e0, e1, e2⟩ := both_table h2 hG (show k ≤ 12 by omega)
      exact ⟨r, ok, e0, e1, e2⟩
theorem laws_FnExactCycleTable_eq (g : List (List Int)) (m : Int) (hl : g.length ≤ 9223372036854775807) (hr : ∀ row ∈ g, row.length ≤ 9223372036854775807) : laws_FnExactCycleTable g m = some true := by
  obtain ⟨v, h1, h2⟩ := laws_szIntSS_eq g hl hr
  unfold laws_FnExactCycleTable
  rw [h1, Option.bind_some]
  by_cases hv : v < 0
  · simp [hv]
  · have hs := h2 (by omega)
    obtain ⟨r, ok, e0, e1, e2⟩ := both_CycleTable g m hs
    obtain ⟨k', g', e3, e4, e5⟩ := laws_markIntSS_eq g hs
    have e7 : ¬ (k' < 0) := by omega
    have e8 : ¬ ((1 : Int) + (r.length : Int) < 0) := by omega
    simp only [hv, decide_false, Bool.false_eq_true, if_false, laws_toIntSS_eq g hs, e1, e2, laws_eqIntS_self r (by omega), laws_eqIntSS_self g hs, Option.bind_some, e3, e7,
      laws_markIntS_eq r 1 (by omega) (by omega), laws_heldIntS_eq r.length 1 (by omega) (by omega), beq_self_eq_true, Bool.not_true, Bool.or_self, bne_self_eq_false, e8]
end Go.PV
