/-
  Plain laws of what the functions answer.
  Conditions: none.
-/
import Derived.KernelRfl
import Derived.Test.YtbdedaimgddjoaaPvCx
import Derived.Test.YtbdedaimgddjoaaDf
set_option linter.all false
/-
 Plain laws: bounds, lists of numbers, vectors.
 Conditions: none.
-/
namespace Go.PV
def inB (a b n : Int) : Bool := decide (a ≤ n) && decide (n ≤ b)
theorem inB_iff {a b n : Int} : inB a b n = true ↔ a ≤ n ∧ n ≤ b := by simp [inB]
theorem spec_l1In_eq (v a b : Int) : spec_l1In v a b = some (inB a b v) := rfl
theorem impl_within_eq (v a b : Int) : impl_within v a b = some (inB a b v) := rfl
theorem spec_l1All_eq (xs : List Int) (a b : Int) (hl : xs.length ≤ 4611686018427387904) : spec_l1All xs a b = some (xs.all (inB a b)) := by
 have h := loop_any (xs := xs) (body := spec_l1All_b1 xs a b) (fun x => !inB a b x) (fun i => (i : Int)) (.inl false) (.inr ()) (fun i x hx => by
  have hi := getElem?_lt hx
  simp only [spec_l1All_b1, idxO_nat, hx, spec_l1In_eq, Option.bind_some, w64_nat (show i < 9223372036854775807 by omega), show ((i : Int) < (xs.length : Int)) from by omega, decide_true, if_true]
  cases inB a b x <;> rfl) (by simp [spec_l1All_b1])
 unfold spec_l1All
 rw [show (0 : Int) = ((0 : Nat) : Int) from rfl, h, List.any_eq_not_all_not]
 simp only [Bool.not_not]
 cases xs.all (inB a b) <;> rfl
def isVec (xs : List Int) : Bool := inB 1 8 xs.length && xs.all (inB 1 1000000)
theorem spec_gwVector_eq (xs : List Int) (hl : xs.length ≤ 4611686018427387904) : spec_gwVector xs = some (isVec xs) := by
 simp only [spec_gwVector, spec_l1In_eq, spec_l1All_eq xs _ _ hl, Option.bind_some, isVec]
 cases inB 1 8 xs.length <;> rfl
theorem slices_IndexFunc_Lint_int_eq (xs : List Int) (f : Int → Option Bool) (p : Int → Bool) (hf : ∀ x, f x = some (p x)) (hl : xs.length ≤ 4611686018427387904) :
  slices_IndexFunc_Lint_int xs f = some (match xs.findIdx? p with | some i => (i : Int) | none => -1) := by
 have h := loop_first (xs := xs) (body := slices_IndexFunc_Lint_int_b1 xs f) p (fun i => (i : Int)) (fun i => .inl (i : Int)) (.inr ()) (fun i x hx => by
  have hi := getElem?_lt hx
  simp only [slices_IndexFunc_Lint_int_b1, idxO_nat, hx, hf, Option.bind_some, w64_nat (show i < 9223372036854775807 by omega), show ((i : Int) < (xs.length : Int)) from by omega, decide_true, if_true]
  cases p x <;> rfl) (by simp [slices_IndexFunc_Lint_int_b1])
 unfold slices_IndexFunc_Lint_int
 rw [show (0 : Int) = ((0 : Nat) : Int) from rfl, h]
 cases xs.findIdx? p <;> rfl
theorem slices_ContainsFunc_Lint_int_eq (xs : List Int) (f : Int → Option Bool) (p : Int → Bool) (hf : ∀ x, f x = some (p x)) (hl : xs.length ≤ 4611686018427387904) : slices_ContainsFunc_Lint_int xs f = some (xs.any p) := by
 simp only [slices_ContainsFunc_Lint_int, slices_IndexFunc_Lint_int_eq xs f p hf hl, Option.bind_some]
 cases h : xs.findIdx? p with
 | none =>
  have hn := List.findIdx?_eq_none_iff.1 h
  have : xs.any p = false := by simpa using hn
  simp [this]
 | some m =>
  obtain ⟨hm, hp, _⟩ := List.findIdx?_eq_some_iff_getElem.1 h
  have : xs.any p = true := by simp; exact ⟨xs[m], List.getElem_mem hm, hp⟩
  simp [this]
theorem impl_isVector_1_eq (x : Int) : impl_isVector_1 x = some (!inB 1 1000000 x) := by simp [impl_isVector_1, impl_within_eq]
theorem impl_isVector_eq (xs : List Int) (hl : xs.length ≤ 4611686018427387904) : impl_isVector xs = some (isVec xs) := by
 unfold impl_isVector
 rw [impl_within_eq, Option.bind_some, slices_ContainsFunc_Lint_int_eq xs (fun x0 => impl_isVector_1 x0) _ impl_isVector_1_eq hl]
 simp only [Option.bind_some, isVec, List.any_eq_not_all_not, Bool.not_not]
 cases inB 1 8 xs.length <;> rfl
theorem set_at {α : Type} (xs ys : List α) (i : Nat) (x : α) (hi : xs[i]? = some x) (hl : i < ys.length) : (xs.take i ++ ys.drop i).set i x = xs.take (i + 1) ++ ys.drop (i + 1) := by
 have h1 := getElem?_lt hi
 apply List.ext_getElem?
 intro j
 rw [List.getElem?_set]
 by_cases hj : i = j
 ·subst hj
  have hlen : i < (xs.take i ++ ys.drop i).length := by simp; omega
  rw [if_pos rfl, if_pos hlen, List.getElem?_append_left (by simp; omega), List.getElem?_take_of_lt (by omega), hi]
 ·rw [if_neg hj, List.getElem?_append, List.getElem?_append]
  simp only [List.length_take, List.getElem?_take, List.getElem?_drop]
  by_cases h2 : j < i
  ·simp [show j < i + 1 by omega, h2, show min i xs.length = i by omega, show min (i + 1) xs.length = i + 1 by omega]
  ·have h3 : ¬ j < i + 1 := by omega
   simp [h3, h2, show min i xs.length = i by omega, show min (i + 1) xs.length = i + 1 by omega]
   congr 1
   omega
theorem laws_toIntS_eq (xs : List Int) (hl : xs.length ≤ 1099511627776) : laws_toIntS xs = some xs := by
 have h := loop_idx (body := laws_toIntS_b1 xs) xs.length (fun i => (xs.take i ++ (List.replicate xs.length (0 : Int)).drop i, (i : Int))) xs (fun i hi => by
  have hlen : i < (xs.take i ++ (List.replicate xs.length (0 : Int)).drop i).length := by simp; omega
  simp only [laws_toIntS_b1, idxO_lt hi, idxO_lt hlen, Option.bind_some, w64_nat (show i < 9223372036854775807 by omega), show ((i : Int) < (xs.length : Int)) from by omega, decide_true, if_true, Int.toNat_natCast]
  rw [set_at _ _ _ _ (List.getElem?_eq_getElem hi) (by simpa using hi)]) (by simp [laws_toIntS_b1])
 unfold laws_toIntS
 rw [guardO_bind_pos (by omega)]
 simp only [List.take_zero, List.nil_append, List.drop_zero] at h
 rw [Int.toNat_natCast, show (0 : Int) = ((0 : Nat) : Int) from rfl]
 rw [show ((List.replicate xs.length ((0 : Nat) : Int)), ((0 : Nat) : Int)) = (List.replicate xs.length (0 : Int), ((0 : Nat) : Int)) from rfl, h]
 rfl
theorem laws_eqIntS_self (xs : List Int) (hl : xs.length ≤ 4611686018427387904) : laws_eqIntS xs xs = some true := by
 have h := loop_idx (body := laws_eqIntS_b1 xs xs) xs.length (fun i => (i : Int)) (.inr ()) (fun i hi => by
  simp only [laws_eqIntS_b1, idxO_lt hi, Option.bind_some, w64_nat (show i < 9223372036854775807 by omega), show ((i : Int) < (xs.length : Int)) from by omega, decide_true, if_true]
  simp) (by simp [laws_eqIntS_b1])
 unfold laws_eqIntS
 rw [show (0 : Int) = ((0 : Nat) : Int) from rfl, h]
 simp [laws_eqIntS_k1]
end Go.PV

/-
 Plain laws: lists and tables by their places.
 Conditions: none.
-/
namespace Go.PV
section
variable {α β : Type}
def tab (n : Nat) (f : Nat → α) : List α := (List.range n).map f
theorem tab_len (n : Nat) (f : Nat → α) : (tab n f).length = n := by simp [tab]
theorem tab_get {n i : Nat} {f : Nat → α} (h : i < n) : (tab n f)[i]? = some (f i) := by simp [tab, h]
theorem tab_get_none {n i : Nat} {f : Nat → α} (h : n ≤ i) : (tab n f)[i]? = none := by simp [tab, h]
theorem idxO_tab {n i : Nat} {f : Nat → α} (h : i < n) : idxO (tab n f) (i : Int) = some (f i) := by rw [idxO_nat, tab_get h]
theorem tab_ext {n : Nat} {f g : Nat → α} (h : ∀ i, i < n → f i = g i) : tab n f = tab n g := List.map_congr_left fun i hi => h i (List.mem_range.1 hi)
theorem tab_set {n i : Nat} {f : Nat → α} {v : α} (h : i < n) : (tab n f).set i v = tab n (fun k => if k = i then v else f k) := by
 apply List.ext_getElem?
 intro j
 rw [List.getElem?_set]
 by_cases hij : i = j
 ·subst hij
  rw [if_pos rfl, if_pos (by rw [tab_len]; exact h), tab_get h, if_pos rfl]
 ·rw [if_neg hij]
  by_cases hj : j < n
  ·rw [tab_get hj, tab_get hj, if_neg (Ne.symm hij)]
  ·rw [tab_get_none (by omega), tab_get_none (by omega)]
theorem rep_tab (n : Nat) (v : α) : List.replicate n v = tab n (fun _ => v) := by
 apply List.ext_getElem?
 intro j
 by_cases hj : j < n
 ·rw [tab_get hj]; simp [hj]
 ·rw [tab_get_none (by omega)]; simp [hj]
theorem tab_succ (n : Nat) (f : Nat → α) : tab n f ++ [f n] = tab (n + 1) f := by simp [tab, List.range_succ]
theorem tab_eta [Inhabited α] (xs : List α) : xs = tab xs.length (fun i => xs.getD i default) := by
 apply List.ext_getElem?
 intro j
 by_cases hj : j < xs.length
 ·rw [tab_get hj]; simp [hj]
 ·rw [tab_get_none (by omega)]; simp; omega
theorem tab_all {n : Nat} {f : Nat → α} {p : α → Bool} : (tab n f).all p = true ↔ ∀ i, i < n → p (f i) = true := by simp [tab]
def mat (n m : Nat) (f : Nat → Nat → α) : List (List α) := tab n fun i => tab m (f i)
theorem mat_len (n m : Nat) (f : Nat → Nat → α) : (mat n m f).length = n := tab_len _ _
theorem idxO_mat {n m i : Nat} {f : Nat → Nat → α} (h : i < n) : idxO (mat n m f) (i : Int) = some (tab m (f i)) := idxO_tab h
def foldN (n : Nat) (g : β → Nat → β) (s : β) : β := (List.range n).foldl g s
theorem foldN_succ (n : Nat) (g : β → Nat → β) (s : β) : foldN (n + 1) g s = g (foldN n g s) n := by simp [foldN, List.range_succ]
theorem foldN_zero (g : β → Nat → β) (s : β) : foldN 0 g s = s := rfl
end
end Go.PV

/-
 Plain laws: graphs, numbers of walks.
 Conditions: none.
-/
namespace Go.PV
def sized (g : List (List Int)) : Prop := g.length ≤ 1048576 ∧ ∀ row ∈ g, row.length ≤ 1048576
theorem laws_szIntS_eq (xs : List Int) (l : Int) (h0 : 0 ≤ l) (h1 : l ≤ 1048576) (hl : xs.length ≤ 9223372036854775807) : laws_szIntS xs l = some (if l - xs.length < 0 then -1 else l - xs.length) := by
 unfold laws_szIntS
 rw [w64_id (by omega) (by omega)]
 by_cases h : l - (xs.length : Int) < 0 <;> simp [h]
theorem laws_szIntSS_eq (g : List (List Int)) (hl : g.length ≤ 9223372036854775807) (hr : ∀ row ∈ g, row.length ≤ 9223372036854775807) : ∃ v, laws_szIntSS g 1048576 = some v ∧ (0 ≤ v → sized g) := by
 unfold laws_szIntSS
 rw [w64_id (by omega) (by omega)]
 by_cases h : (1048576 : Int) - (g.length : Int) < 0
 ·exact ⟨-1, by simp [h], by omega⟩
 ·simp only [h, decide_false, Bool.false_eq_true, if_false]
  obtain ⟨y, h1, h2⟩ := loop_run (body := laws_szIntSS_b1 g) (fun x => ∃ k : Nat, x.2 = k ∧ k ≤ g.length ∧ 0 ≤ x.1 ∧ x.1 ≤ 1048576 ∧ ∀ row ∈ g.take k, row.length ≤ 1048576) (fun x => g.length - x.2.toNat) (fun y => y = .inl (-1) ∨ ∃ l, y = .inr l ∧ sized g)
   (fun ⟨l, i⟩ ⟨k, hk, hkn, h3, h4, h5⟩ => by
    simp only at hk h3 h4
    subst hk
    by_cases hlt : k < g.length
    ·have hrow := hr g[k] (List.getElem_mem hlt)
     simp only [laws_szIntSS_b1, idxO_lt hlt, Option.bind_some, show ((k : Int) < (g.length : Int)) from by omega, decide_true, if_true, laws_szIntS_eq _ l h3 h4 hrow]
     by_cases hn : l - (g[k].length : Int) < 0
     ·right; exact ⟨_, by simp [hn], .inl rfl⟩
     ·left
      refine ⟨(l - g[k].length, ((k + 1 : Nat) : Int)), by simp [hn, w64_nat (show k < 9223372036854775807 by omega)], ⟨k + 1, rfl, hlt, by simp only []; omega, by simp only []; omega, ?_⟩, by simp only [Int.toNat_natCast]; omega⟩
      intro row hrow'
      rw [List.take_add_one, List.getElem?_eq_getElem hlt] at hrow'
      rcases List.mem_append.1 hrow' with h6 | h6
      ·exact h5 row h6
      ·simp at h6; subst h6; omega
    ·right
     refine ⟨.inr l, by simp [laws_szIntSS_b1, show ¬ ((k : Int) < (g.length : Int)) by omega], .inr ⟨l, rfl, by omega, ?_⟩⟩
     rwa [List.take_of_length_le (by omega)] at h5)
   (1048576 - (g.length : Int), 0) ⟨0, rfl, by omega, by simp only []; omega, by simp only []; omega, by simp⟩
  rw [h1]
  rcases h2 with rfl | ⟨l, rfl, h3⟩
  ·exact ⟨-1, rfl, by omega⟩
  ·exact ⟨l, rfl, fun _ => h3⟩
theorem laws_toIntSS_eq (g : List (List Int)) (h : sized g) : laws_toIntSS g = some g := by
 obtain ⟨hl, hr⟩ := h
 have hx := loop_idx (body := laws_toIntSS_b1 g) g.length (fun i => (g.take i ++ (List.replicate g.length ([] : List Int)).drop i, (i : Int))) g (fun i hi => by
  have hlen : i < (g.take i ++ (List.replicate g.length ([] : List Int)).drop i).length := by simp; omega
  simp only [laws_toIntSS_b1, idxO_lt hi, idxO_lt hlen, Option.bind_some, laws_toIntS_eq g[i] (by have := hr g[i] (List.getElem_mem hi); omega), w64_nat (show i < 9223372036854775807 by omega), show ((i : Int) < (g.length : Int)) from by omega, decide_true, if_true, Int.toNat_natCast]
  rw [set_at _ _ _ _ (List.getElem?_eq_getElem hi) (by simpa using hi)]) (by simp [laws_toIntSS_b1])
 unfold laws_toIntSS
 rw [guardO_bind_pos (by omega)]
 simp only [List.take_zero, List.nil_append, List.drop_zero] at hx
 rw [Int.toNat_natCast, show (0 : Int) = ((0 : Nat) : Int) from rfl, hx]
 rfl
theorem laws_eqIntSS_self (g : List (List Int)) (h : sized g) : laws_eqIntSS g g = some true := by
 obtain ⟨hl, hr⟩ := h
 have h := loop_idx (body := laws_eqIntSS_b1 g g) g.length (fun i => (i : Int)) (.inr ()) (fun i hi => by
  simp only [laws_eqIntSS_b1, idxO_lt hi, Option.bind_some, laws_eqIntS_self g[i] (by have := hr g[i] (List.getElem_mem hi); omega), w64_nat (show i < 9223372036854775807 by omega), show ((i : Int) < (g.length : Int)) from by omega, decide_true, if_true]
  simp) (by simp [laws_eqIntSS_b1])
 unfold laws_eqIntSS
 rw [show (0 : Int) = ((0 : Nat) : Int) from rfl, h]
 simp [laws_eqIntSS_k1]
def isGraph (g : List (List Int)) : Bool := inB 1 8 g.length && g.all fun row => (row.length : Int) == g.length && row.all (inB 0 9)
theorem contains_LL (xs : List (List Int)) (f : List Int → Option Bool) (p : List Int → Bool) (hf : ∀ x ∈ xs, f x = some (p x)) (hl : xs.length ≤ 4611686018427387904) : slices_ContainsFunc_LLint_Lint xs f = some (xs.any p) := by
 have h := loop_first (xs := xs) (body := slices_IndexFunc_LLint_Lint_b1 xs f) p (fun i => (i : Int)) (fun i => .inl (i : Int)) (.inr ()) (fun i x hx => by
  have hi := getElem?_lt hx
  simp only [slices_IndexFunc_LLint_Lint_b1, idxO_nat, hx, hf x (List.mem_of_getElem? hx), Option.bind_some, w64_nat (show i < 9223372036854775807 by omega), show ((i : Int) < (xs.length : Int)) from by omega, decide_true, if_true]
  cases p x <;> rfl) (by simp [slices_IndexFunc_LLint_Lint_b1])
 unfold slices_ContainsFunc_LLint_Lint slices_IndexFunc_LLint_Lint
 rw [show (0 : Int) = ((0 : Nat) : Int) from rfl, h]
 cases hx : xs.findIdx? p with
 | none =>
  have hn := List.findIdx?_eq_none_iff.1 hx
  have : xs.any p = false := by simpa using hn
  simp [this, slices_IndexFunc_LLint_Lint_k1]
 | some m =>
  obtain ⟨hm, hp, _⟩ := List.findIdx?_eq_some_iff_getElem.1 hx
  have : xs.any p = true := by simp; exact ⟨xs[m], List.getElem_mem hm, hp⟩
  simp [this]
theorem impl_isGraph_1_1_eq (x : Int) : impl_isGraph_1_1 x = some (!inB 0 9 x) := by simp [impl_isGraph_1_1, impl_within_eq]
theorem impl_isGraph_1_eq (row : List Int) (g : List (List Int)) (hl : row.length ≤ 4611686018427387904) : impl_isGraph_1 row g = some (!((row.length : Int) == g.length && row.all (inB 0 9))) := by
 unfold impl_isGraph_1
 rw [slices_ContainsFunc_Lint_int_eq row (fun x0 => impl_isGraph_1_1 x0) _ impl_isGraph_1_1_eq hl]
 by_cases hc : (row.length : Int) = g.length
 ·simp [hc, List.any_eq_not_all_not]
 ·simp [hc]
theorem impl_isGraph_eq (g : List (List Int)) (h : sized g) : impl_isGraph g = some (isGraph g) := by
 obtain ⟨hl, hr⟩ := h
 unfold impl_isGraph
 rw [impl_within_eq, Option.bind_some, contains_LL g (fun x0 => impl_isGraph_1 x0 g) _ (fun x hx => impl_isGraph_1_eq x g (by have := hr x hx; omega)) (by omega)]
 simp only [Option.bind_some, isGraph, List.any_eq_not_all_not, Bool.not_not]
 cases inB 1 8 g.length <;> rfl
theorem spec_grGood_eq (g : List (List Int)) (h : sized g) : spec_grGood g = some (isGraph g) := by
 obtain ⟨hl, hr⟩ := h
 have hx := loop_any (xs := g) (body := spec_grGood_b1 g) (fun row => !((row.length : Int) == g.length && row.all (inB 0 9))) (fun i => (i : Int)) (.inl false) (.inr ()) (fun i x hx => by
  have hi := getElem?_lt hx
  have hlx := hr x (List.mem_of_getElem? hx)
  simp only [spec_grGood_b1, idxO_nat, hx, Option.bind_some, spec_l1All_eq x 0 9 (by omega), w64_nat (show i < 9223372036854775807 by omega), show ((i : Int) < (g.length : Int)) from by omega, decide_true, if_true, bne]
  cases (x.length : Int) == g.length
  ·rfl
  ·cases x.all (inB 0 9) <;> rfl) (by simp [spec_grGood_b1])
 unfold spec_grGood isGraph
 rw [spec_l1In_eq, Option.bind_some, show (0 : Int) = ((0 : Nat) : Int) from rfl, hx, List.any_eq_not_all_not]
 simp only [Bool.not_not]
 cases inB 1 8 g.length
 ·rfl
 ·simp only [Bool.not_true, Bool.false_eq_true, if_false, Bool.true_and, Option.bind_some]
  cases (g.all fun row => (row.length : Int) == g.length && row.all (inB 0 9)) <;> rfl
theorem isGraph_mat {g : List (List Int)} (h : isGraph g = true) : ∃ (n : Nat) (G : Nat → Nat → Int), 1 ≤ n ∧ n ≤ 8 ∧ g = mat n n G ∧ ∀ i j, i < n → j < n → 0 ≤ G i j ∧ G i j ≤ 9 := by
 simp only [isGraph, Bool.and_eq_true, inB_iff, List.all_eq_true, beq_iff_eq] at h
 obtain ⟨⟨h1, h2⟩, h3⟩ := h
 refine ⟨g.length, fun i j => (g.getD i []).getD j 0, by omega, by omega, ?_, fun i j hi hj => ?_⟩
 ·refine (tab_eta g).trans (tab_ext fun i hi => ?_)
  have hlen := (h3 g[i] (List.getElem_mem hi)).1
  have e : g.getD i default = g[i] := by simp [hi]
  have e2 : g.getD i [] = g[i] := by simp [hi]
  rw [e]
  show g[i] = tab g.length (fun j => (g.getD i []).getD j 0)
  rw [e2]
  refine (tab_eta g[i]).trans ?_
  rw [show g[i].length = g.length by omega]
  rfl
 ·have hrow := h3 g[i] (List.getElem_mem hi)
  have e : g.getD i [] = g[i] := by simp [hi]
  have hj' : j < g[i].length := by omega
  have e2 : g[i].getD j 0 = g[i][j] := by simp [hj']
  simp only [e, e2]
  exact hrow.2 _ (List.getElem_mem hj')
end Go.PV

/-
 Plain laws: marks on lists, and that they are held.
 Conditions: none.
-/
set_option linter.all false
namespace Go.PV
section
variable {α : Type}
def marks (w : Nat) (f : Int → α) (n : Nat) (k : Int) : List α := tab n fun i => f (k + (w : Int) * i)
theorem marks_len (w : Nat) (f : Int → α) (n : Nat) (k : Int) : (marks w f n k).length = n := tab_len _ _
theorem mark_loop {body : (List α × Int × Int) → Option ((List α × Int × Int) ⊕ (List α × Int))} (w : Nat) (f : Int → α) (xs : List α) (k : Int) (hk : 0 ≤ k) (hk2 : k + w * xs.length ≤ 4611686018427387904)
  (h : ∀ (l : List α) (i : Nat) (c : Int), i < l.length → i < 4611686018427387904 → 0 ≤ c → c + w ≤ 4611686018427387904 → body (l, c, (i : Int)) = some (.inl (l.set i (f c), c + w, ((i + 1 : Nat) : Int))))
  (hl : xs.length ≤ 4611686018427387904) (h2 : ∀ l c, body (l, c, (l.length : Int)) = some (.inr (l, c))) : loopO body (xs, k, 0) = some (marks w f xs.length k, k + w * xs.length) := by
 have hx := loop_idx (body := body) xs.length (fun i => ((marks w f xs.length k).take i ++ xs.drop i, k + (w : Int) * i, (i : Int))) (marks w f xs.length k, k + w * xs.length) (fun i hi => by
  have hb : (w : Int) * i + w ≤ w * xs.length := by
   have : (w : Int) * ((i + 1 : Nat) : Int) ≤ w * xs.length := Int.mul_le_mul_of_nonneg_left (by omega) (by omega)
   rw [Int.natCast_add, Int.mul_add] at this
   simpa using this
  have hb0 : 0 ≤ (w : Int) * i := Int.mul_nonneg (by omega) (by omega)
  rw [h _ i _ (by simp [marks_len]; omega) (by omega) (by omega) (by omega)]
  rw [set_at _ _ _ (f (k + (w : Int) * i)) (by unfold marks; rw [tab_get hi]) hi]
  congr 3
  rw [Int.natCast_add, Int.mul_add]
  simp
  omega) (by
  have e : (marks w f xs.length k).take xs.length ++ xs.drop xs.length = marks w f xs.length k := by
   rw [List.drop_of_length_le (Nat.le_refl _), List.append_nil, List.take_of_length_le (by rw [marks_len]; exact Nat.le_refl _)]
  rw [e]
  have := h2 (marks w f xs.length k) (k + w * xs.length)
  rw [marks_len] at this
  exact this)
 simpa using hx
theorem held_loop {Y : Type} {body : (Int × Int) → Option ((Int × Int) ⊕ (Y ⊕ Int))} (w : Nat) (n : Nat) (k : Int) (hk : 0 ≤ k) (hk2 : k + w * n ≤ 4611686018427387904) (hn : n ≤ 4611686018427387904)
  (h : ∀ (i : Nat), i < n → 0 ≤ k + (w : Int) * i → k + (w : Int) * i + w ≤ 4611686018427387904 → body (k + (w : Int) * i, (i : Int)) = some (.inl (k + (w : Int) * i + w, ((i + 1 : Nat) : Int))))
  (h2 : ∀ c, body (c, (n : Int)) = some (.inr (.inr c))) : loopO body (k, 0) = some (.inr (k + w * n)) := by
 have hx := loop_idx (body := body) n (fun i => (k + (w : Int) * i, (i : Int))) (.inr (k + w * n)) (fun i hi => by
  have hb : (w : Int) * i + w ≤ w * n := by
   have : (w : Int) * ((i + 1 : Nat) : Int) ≤ w * n := Int.mul_le_mul_of_nonneg_left (by omega) (by omega)
   rw [Int.natCast_add, Int.mul_add] at this
   simpa using this
  have hb0 : 0 ≤ (w : Int) * i := Int.mul_nonneg (by omega) (by omega)
  rw [h i hi (by omega) (by omega)]
  congr 3
  rw [Int.natCast_add, Int.mul_add]
  simp
  omega) (h2 _)
 simpa using hx
end
def markI (n : Nat) (k : Int) : List Int := marks 1 (fun c => c) n k
theorem laws_markIntS_eq (xs : List Int) (k : Int) (hk : 0 ≤ k) (hk2 : k + xs.length ≤ 4611686018427387904) : laws_markIntS xs k = some (k + xs.length, markI xs.length k) := by
 unfold laws_markIntS
 rw [mark_loop 1 (fun c => c) xs k hk (by omega) (fun l i c h1 h3 h4 h5 => by
  simp only [laws_markIntS_b1, idxO_lt h1, Option.bind_some, show ((i : Int) < (l.length : Int)) from by omega, decide_true, if_true, Int.toNat_natCast, w64_nat (show i < 9223372036854775807 by omega), w64_id (n := c + 1) (by omega) (by omega)]
  rfl) (by omega) (fun l c => by simp [laws_markIntS_b1])]
 simp [laws_markIntS_k1, markI]
theorem laws_heldIntS_eq (n : Nat) (k : Int) (hk : 0 ≤ k) (hk2 : k + n ≤ 4611686018427387904) : laws_heldIntS (markI n k) k = some (k + n) := by
 unfold laws_heldIntS
 rw [held_loop (body := laws_heldIntS_b1 (markI n k)) 1 n k hk (by omega) (by omega) (fun i hi h3 h4 => by
  have e : idxO (markI n k) (i : Int) = some (k + ((1 : Nat) : Int) * (i : Int)) := by unfold markI marks; rw [idxO_tab hi]
  simp only [laws_heldIntS_b1, show (markI n k).length = n from marks_len _ _ _ _, e, Option.bind_some, show ((i : Int) < (n : Int)) from by omega, decide_true, if_true, w64_nat (show i < 9223372036854775807 by omega), bne_self_eq_false, Bool.false_eq_true, if_false, w64_id (n := k + ((1 : Nat) : Int) * (i : Int) + 1) (by omega) (by omega)]
  rfl) (fun c => by simp [laws_heldIntS_b1, show (markI n k).length = n from marks_len _ _ _ _])]
 simp [laws_heldIntS_k1]
theorem laws_markIntSS_eq (g : List (List Int)) (hg : sized g) : ∃ k' g', laws_markIntSS g 1 = some (k', g') ∧ 0 ≤ k' ∧ k' ≤ 1099511627777 := by
 obtain ⟨hl, hr⟩ := hg
 obtain ⟨y, h1, h2⟩ := loop_run (body := laws_markIntSS_b1) (fun x => ∃ i : Nat, x.2.2 = i ∧ i ≤ g.length ∧ x.1.length = g.length ∧ (∀ j, i ≤ j → x.1[j]? = g[j]?) ∧ 0 ≤ x.2.1 ∧ x.2.1 ≤ 1 + 1048576 * (i : Int)) (fun x => g.length - x.2.2.toNat) (fun y => 0 ≤ y.2 ∧ y.2 ≤ 1099511627777)
  (fun ⟨l, c, t⟩ ⟨i, e1, e2, e3, e4, e5, e6⟩ => by
   simp only at e1 e3 e4 e5 e6
   subst e1
   by_cases hi : i < g.length
   ·left
    have hrow := hr g[i] (List.getElem_mem hi)
    have hli : i < l.length := by omega
    have hget : l[i] = g[i] := by
     have := e4 i (Nat.le_refl i)
     rw [List.getElem?_eq_getElem hli, List.getElem?_eq_getElem hi] at this
     exact Option.some.inj this
    refine ⟨(l.set i (markI g[i].length c), c + g[i].length, ((i + 1 : Nat) : Int)), ?_, ⟨i + 1, rfl, hi, by simpa using e3, fun j hj => ?_, by show 0 ≤ c + (g[i].length : Int); omega, by show c + (g[i].length : Int) ≤ _; omega⟩, by simp only [Int.toNat_natCast]; omega⟩
    ·simp only [laws_markIntSS_b1, show ((i : Int) < (l.length : Int)) from by omega, decide_true, if_true, idxO_lt hli, hget, Option.bind_some, laws_markIntS_eq g[i] c e5 (by omega), Int.toNat_natCast, w64_nat (show i < 9223372036854775807 by omega)]
    ·rw [List.getElem?_set_ne (by omega)]; exact e4 j (by omega)
   ·right
    refine ⟨(l, c), by simp [laws_markIntSS_b1, show ¬ ((i : Int) < (l.length : Int)) by omega], e5, by show c ≤ _; omega⟩) (g, 1, 0) ⟨0, rfl, by omega, rfl, fun j _ => rfl, by show (0 : Int) ≤ 1; omega, by show (1 : Int) ≤ _; omega⟩
 refine ⟨y.2, y.1, ?_, h2⟩
 unfold laws_markIntSS
 rw [h1]
 rfl
def markR (n : Nat) (k : Int) : List (Int × Int) := marks 2 (fun c => (c, c + 1)) n k
end Go.PV

/-
 Plain laws: powers of graphs' tables, numbers of all walks.
 Conditions: none.
-/
namespace Go.PV
def capMul (most acc w a : Int) : Int := if most < w64 (acc + w64 (w * a)) then most else w64 (acc + w64 (w * a))
def powStep (n : Nat) (G : Nat → Nat → Int) (most : Int) (F : Nat → Nat → Int) : Nat → Nat → Int := fun i j => foldN n (fun acc k => capMul most acc (F i k) (G k j)) 0
def idM : Nat → Nat → Int := fun i j => if i = j then 1 else 0
def powN (n : Nat) (G : Nat → Nat → Int) (most : Int) : Nat → Nat → Nat → Int
 | 0 => idM
 | m + 1 => powStep n G most (powN n G most m)
section impl
variable {n : Nat} {G : Nat → Nat → Int} {most : Int}
end impl
section spec
variable {n : Nat} {G : Nat → Nat → Int}
end spec
def capAt (x : Int) : Int := if 1000000001 < x then 1000000001 else x
def total (g : List (List Int)) : Int := (g.map List.sum).sum
def totalWalks (g : List (List Int)) (m : Int) : Int × Bool :=
 if isGraph g && inB 0 12 m then
  let t := total (mat g.length g.length (powN g.length (fun i j => (g.getD i []).getD j 0) 1000000001 m.toNat))
  if t > 1000000000 then (0, false) else (t, true)
 else (0, false)
end Go.PV

/-
 Plain laws: characteristic polynomials.
 Conditions: none.
-/
set_option linter.all false
namespace Go.PV
def mulW (n : Nat) (A M : Nat → Nat → Int) (i j : Nat) : Int := foldN n (fun s l => w64 (s + w64 (A i l * M l j))) 0
def trW (n : Nat) (P : Nat → Nat → Int) : Int := foldN n (fun s i => w64 (s + P i i)) 0
def addD (M : Nat → Nat → Int) (c : Int) (i j : Nat) : Int := if i = j then w64 (M i j + c) else M i j
section
variable {n : Nat} {A : Nat → Nat → Int}
def chN (n : Nat) (A : Nat → Nat → Int) : Nat → (Nat → Int) × (Nat → Nat → Int)
 | 0 => (fun i => if i = n then 1 else 0, fun _ _ => 0)
 | k + 1 => (fun i => if i = n - (k + 1) then w64 (Int.tdiv (w64 (0 - trW n (mulW n A (addD (chN n A k).2 ((chN n A k).1 (n - k)))))) ((k + 1 : Nat) : Int)) else (chN n A k).1 i, mulW n A (addD (chN n A k).2 ((chN n A k).1 (n - k))))
end
def isPoly (c : List Int) : Bool := decide ((c.length : Int) ≤ 9) && (c.all (inB (-1000000) 1000000))
end Go.PV

/-
 Plain laws: greatest divisors, fractions, floors, fractions reduced.
 Conditions: none.
-/
namespace Go.PV
def isRat (r : Int × Int) : Bool := inB 1 1000000000 r.2 && (inB (-1000000000) 1000000000 r.1 && (Int.gcd r.1 r.2 : Int) == 1)
def lowest (n d : Int) : (Int × Int) × Bool :=
 let g := if d < 0 then -(Int.gcd n d : Int) else Int.gcd n d
 if isRat (Int.tdiv n g, Int.tdiv d g) then ((Int.tdiv n g, Int.tdiv d g), true) else ((0, 0), false)
def near (r : Int × Int) : Bool := isRat r && inB (-1000 * r.2) (1000 * r.2) r.1
def cmp (a b : Int × Int) : Int := if a.1 * b.2 < b.1 * a.2 then -1 else if a.1 * b.2 > b.1 * a.2 then 1 else 0
def tame (r : Int × Int) : Prop := -1000000000 ≤ r.1 ∧ r.1 ≤ 1000000000 ∧ -1000000000 ≤ r.2 ∧ r.2 ≤ 1000000000
def less (a b : Int × Int) : Bool := decide (a.1 * b.2 < b.1 * a.2)
def floorDiv (n d : Int) : Int := if Int.tmod n d < 0 then Int.tdiv n d - 1 else Int.tdiv n d
def reduceRat (r : Int × Int) : (Int × Int) × Bool := if near r then ((r.1 - floorDiv r.1 r.2 * r.2, r.2), true) else ((0, 0), false)
end Go.PV

set_option linter.all false
namespace Go.PV
abbrev Pt := (Int × Int) × (Int × Int)
def zP : Pt := ((0, 0), (0, 0))
def isUnit (r : Int × Int) : Bool := isRat r && inB 0 r.2 r.1
def coord (r : Int × Int) : Bool := isUnit r && decide (r.2 ≤ 100)
def goodPt (p : Pt) : Bool := coord p.1 && (isRat p.2 && (decide (p.2.2 ≤ 100) && inB (-5 * p.2.2) (5 * p.2.2) p.2.1))
def stepPt (a b : Pt) : Bool := less a.1 b.1 && !less b.2 a.2
def steps (xs : List Pt) (n : Nat) : Prop := ∀ i a b, 0 < i → i < n → xs[i - 1]? = some a → xs[i]? = some b → stepPt a b = true
def ends (xs : List Pt) : Bool := match xs[0]?, xs[xs.length - 1]? with
 | some a, some b => (a.1 == (0, 1)) && ((b.1 == (1, 1)) && (b.2 == (a.2.1 + a.2.2, a.2.2)))
 | _, _ => false
open Classical in
noncomputable def isLift (xs : List Pt) : Bool := inB 2 12 xs.length && (decide (xs.all goodPt = true ∧ steps xs xs.length) && ends xs)
end Go.PV

set_option linter.all false
namespace Go.PV
def dotN (G : Nat → Int) (v : Nat → Int) (n : Nat) : Int := foldN n (fun s j => s + G j * v j) 0
theorem dotN_bound {G v : Nat → Int} {n : Nat} (k : Nat) (hk : k ≤ n) (hG : ∀ j, j < n → 0 ≤ G j ∧ G j ≤ 9) (hv : ∀ j, j < n → 1 ≤ v j ∧ v j ≤ 1000000) : 0 ≤ dotN G v k ∧ dotN G v k ≤ 9000000 * k := by
 induction k with
 | zero => simp [dotN, foldN_zero]
 | succ k ih =>
  have := ih (by omega)
  have e : dotN G v (k + 1) = dotN G v k + G k * v k := by simp [dotN, foldN_succ]
  obtain ⟨g1, g2⟩ := hG k (by omega)
  obtain ⟨v1, v2⟩ := hv k (by omega)
  have p1 : 0 ≤ G k * v k := Int.mul_nonneg g1 (by omega)
  have p2 : G k * v k ≤ 9 * 1000000 := Int.mul_le_mul g2 v2 (by omega) (by omega)
  rw [e]
  omega
theorem dotN_step {G v : Nat → Int} {n k : Nat} (hn : n ≤ 8) (hk : k < n) (hG : ∀ j, j < n → 0 ≤ G j ∧ G j ≤ 9) (hv : ∀ j, j < n → 1 ≤ v j ∧ v j ≤ 1000000) : w64 (dotN G v k + w64 (G k * v k)) = dotN G v (k + 1) := by
 have b1 := dotN_bound k (by omega) hG hv
 have e : dotN G v (k + 1) = dotN G v k + G k * v k := by simp [dotN, foldN_succ]
 obtain ⟨g1, g2⟩ := hG k (by omega)
 obtain ⟨v1, v2⟩ := hv k (by omega)
 have p1 : 0 ≤ G k * v k := Int.mul_nonneg g1 (by omega)
 have p2 : G k * v k ≤ 9 * 1000000 := Int.mul_le_mul g2 v2 (by omega) (by omega)
 rw [e, w64_id (n := G k * v k) (by omega) (by omega), w64_id (by omega) (by omega)]
theorem spec_gwTimes_eq {n : Nat} {G : Nat → Nat → Int} {v : Nat → Int} (hn : n ≤ 8) (hG : ∀ i j, i < n → j < n → 0 ≤ G i j ∧ G i j ≤ 9) (hv : ∀ j, j < n → 1 ≤ v j ∧ v j ≤ 1000000) :
  spec_gwTimes (mat n n G) (tab n v) = some (tab n fun i => dotN (G i) v n) := by
 have inner : ∀ i, i < n → loopO (spec_gwTimes_b2 (tab n v) (tab n (G i))) (0, 0) = some (dotN (G i) v n) := fun i hi => by
  have h := loop_idx (body := spec_gwTimes_b2 (tab n v) (tab n (G i))) n (fun j => (dotN (G i) v j, (j : Int))) (dotN (G i) v n) (fun j hj => by
   simp only [spec_gwTimes_b2, tab_len, idxO_tab hj, Option.bind_some, show ((j : Int) < (n : Int)) from by omega, decide_true, if_true, w64_nat (show j < 9223372036854775807 by omega), dotN_step hn hj (fun j hj => hG i j hi hj) hv]) (by simp [spec_gwTimes_b2, tab_len])
  exact h
 have outer := loop_idx (body := spec_gwTimes_b1 (mat n n G) (tab n v)) n (fun i => (tab i fun i => dotN (G i) v n, (i : Int))) (tab n fun i => dotN (G i) v n) (fun i hi => by
  simp only [spec_gwTimes_b1, mat_len, idxO_mat hi, Option.bind_some, show ((i : Int) < (n : Int)) from by omega, decide_true, if_true, inner i hi, spec_gwTimes_k3, spec_gwTimes_k2, w64_nat (show i < 9223372036854775807 by omega)]
  rw [guardO_bind_pos (by simp [tab_len]; omega), tab_succ i fun i => dotN (G i) v n]) (by simp [spec_gwTimes_b1, mat_len])
 unfold spec_gwTimes
 have : loopO (spec_gwTimes_b1 (mat n n G) (tab n v)) ([], 0) = some (tab n fun i => dotN (G i) v n) := outer
 rw [this]
 rfl
theorem impl_times_eq {n : Nat} {G : Nat → Nat → Int} {v : Nat → Int} (hn : n ≤ 8) (hG : ∀ i j, i < n → j < n → 0 ≤ G i j ∧ G i j ≤ 9) (hv : ∀ j, j < n → 1 ≤ v j ∧ v j ≤ 1000000) :
  impl_times (mat n n G) (tab n v) = some (tab n fun i => dotN (G i) v n) := by
 let R : Nat → Nat → Nat → Int := fun i j k => if k < i then dotN (G k) v n else if k = i then dotN (G i) v j else 0
 have inner : ∀ i, i < n → loopO (impl_times_b2 (tab n v) (tab n (R i 0), (i : Int)) (tab n (G i))) (tab n (R i 0), 0) = some (tab n (R i n)) := fun i hi => by
  have h := loop_idx (body := impl_times_b2 (tab n v) (tab n (R i 0), (i : Int)) (tab n (G i))) n (fun j => (tab n (R i j), (j : Int))) (tab n (R i n)) (fun j hj => by
   simp only [impl_times_b2, tab_len, idxO_tab hj, idxO_tab hi, Option.bind_some, show ((j : Int) < (n : Int)) from by omega, decide_true, if_true, w64_nat (show j < 9223372036854775807 by omega), Int.toNat_natCast]
   rw [show R i j i = dotN (G i) v j by simp [R], dotN_step hn hj (fun j hj => hG i j hi hj) hv, tab_set hi]
   congr 3
   refine tab_ext fun k hk => ?_
   by_cases hki : k = i
   ·subst hki; simp [R]
   ·simp [R, hki]) (by simp [impl_times_b2, tab_len])
  exact h
 have outer := loop_idx (body := impl_times_b1 (mat n n G) (tab n v)) n (fun i => (tab n (R i 0), (i : Int))) (tab n (R n 0)) (fun i hi => by
  simp only [impl_times_b1, mat_len, idxO_mat hi, Option.bind_some, show ((i : Int) < (n : Int)) from by omega, decide_true, if_true, inner i hi, impl_times_k2, w64_nat (show i < 9223372036854775807 by omega)]
  congr 3
  refine tab_ext fun k hk => ?_
  by_cases h1 : k < i
  ·simp [R, h1, show k < i + 1 by omega]
  ·by_cases h2 : k = i
   ·subst h2; simp [R]
   ·have h3 : ¬ k < i + 1 := by omega
    by_cases h4 : k = i + 1
    ·subst h4; simp [R, dotN, foldN_zero, show ¬ i + 1 < i by omega]
    ·simp [R, h1, h2, h3, h4]) (by simp [impl_times_b1, mat_len])
 unfold impl_times
 rw [mat_len, guardO_bind_pos (by omega), Int.toNat_natCast, rep_tab]
 have e : tab n (fun _ => (0 : Int)) = tab n (R 0 0) := tab_ext fun k hk => by
  by_cases h : k = 0
  ·subst h; simp [R, dotN, foldN_zero]
  ·simp [R, h]
 rw [e]
 have : loopO (impl_times_b1 (mat n n G) (tab n v)) (tab n (R 0 0), 0) = some (tab n (R n 0)) := outer
 rw [this, Option.bind_some]
 simp only [impl_times_k1]
 congr 1
 exact tab_ext fun k hk => by simp [R, hk]
end Go.PV

set_option linter.all false
namespace Go.PV
def minStep (a b : Int × Int) : Int × Int := if less b a = true then b else a
def maxStep (a b : Int × Int) : Int × Int := if less a b = true then b else a
def mnN (r : Nat → Int × Int) (i : Nat) : Int × Int := foldN i (fun s j => minStep s (r j)) (r 0)
def mxN (r : Nat → Int × Int) (i : Nat) : Int × Int := foldN i (fun s j => maxStep s (r j)) (r 0)
def ratN (G : Nat → Nat → Int) (v : Nat → Int) (n i : Nat) : Int × Int := (lowest (dotN (G i) v n) (v i)).1
section
variable {n : Nat} {G : Nat → Nat → Int} {v : Nat → Int}
end
def asked (g : List (List Int)) (u : List Int) : Bool := isGraph g && (isVec u && ((u.length : Int) == (g.length : Int)))
end Go.PV

/-
 Plain laws: lists turned round, ones.
 Conditions: none.
-/
set_option linter.all false
namespace Go.PV
section
variable {α : Type} [Inhabited α]
def revSt (xs : List α) (k : Nat) : List α := tab xs.length fun p => if p < k ∨ xs.length ≤ p + k then xs.getD (xs.length - 1 - p) default else xs.getD p default
end
theorem mul_1_0 : math_bits_Mul 1 0 = some (0, 0) := by kernel_rfl
theorem mul_1_1 : math_bits_Mul 1 1 = some (0, 1) := by kernel_rfl
theorem mul_1_2 : math_bits_Mul 1 2 = some (0, 2) := by kernel_rfl
theorem mul_1_3 : math_bits_Mul 1 3 = some (0, 3) := by kernel_rfl
theorem mul_1_4 : math_bits_Mul 1 4 = some (0, 4) := by kernel_rfl
theorem mul_1_5 : math_bits_Mul 1 5 = some (0, 5) := by kernel_rfl
theorem mul_1_6 : math_bits_Mul 1 6 = some (0, 6) := by kernel_rfl
theorem mul_1_7 : math_bits_Mul 1 7 = some (0, 7) := by kernel_rfl
theorem mul_1_8 : math_bits_Mul 1 8 = some (0, 8) := by kernel_rfl
theorem mul_one (n : Nat) (hn : n ≤ 8) : math_bits_Mul 1 (n : Int) = some (0, (n : Int)) := by
 match n, hn with
 | 0, _ => exact mul_1_0
 | 1, _ => exact mul_1_1
 | 2, _ => exact mul_1_2
 | 3, _ => exact mul_1_3
 | 4, _ => exact mul_1_4
 | 5, _ => exact mul_1_5
 | 6, _ => exact mul_1_6
 | 7, _ => exact mul_1_7
 | 8, _ => exact mul_1_8
 | n + 9, h => omega
theorem rep_copy (n m : Nat) (h1 : 1 ≤ m) (h2 : m < n) : copyAt (List.replicate m (1 : Int) ++ List.replicate (n - m) 0) m ((List.replicate m (1 : Int) ++ List.replicate (n - m) 0).take m) = List.replicate (m + min m (n - m)) 1 ++ List.replicate (n - (m + min m (n - m))) 0 := by
 have hlen : (List.replicate m (1 : Int) ++ List.replicate (n - m) 0).length = n := by simp; omega
 unfold copyAt
 rw [hlen]
 have t1 : (List.replicate m (1 : Int) ++ List.replicate (n - m) 0).take m = List.replicate m 1 := by simp
 rw [t1]
 simp only [List.length_replicate, List.take_replicate, List.drop_append, List.drop_replicate]
 rw [show m - (m + min m (n - m)) = 0 from by omega, show n - m - (m + min m (n - m) - m) = n - (m + min m (n - m)) from by omega, List.replicate_zero, List.nil_append, List.replicate_append_replicate]
 rw [show min (n - m) m = min m (n - m) from by omega]
theorem rep_loop (n : Nat) (hn : n ≤ 8) : ∀ k m, n - m ≤ k → 1 ≤ m → m ≤ n → loopO slices_Repeat_Lint_int_b1 (List.replicate m (1 : Int) ++ List.replicate (n - m) 0, (m : Int)) = some (List.replicate n 1)
 | 0, m, hk, h1, h2 => by
  have : m = n := by omega
  subst this
  rw [loopO_eq]
  simp [slices_Repeat_Lint_int_b1]
 | k + 1, m, hk, h1, h2 => by
  by_cases h : m = n
  ·subst h
   rw [loopO_eq]
   simp [slices_Repeat_Lint_int_b1]
  ·rw [loopO_eq]
   have hlen : (List.replicate m (1 : Int) ++ List.replicate (n - m) 0).length = n := by simp; omega
   have ih := rep_loop n hn k (m + min m (n - m)) (by omega) (by omega) (by omega)
   simp only [slices_Repeat_Lint_int_b1, hlen, show ((m : Int) < (n : Int)) from by omega, decide_true, if_true, Int.toNat_natCast]
   rw [guardO_bind_pos (by omega), rep_copy n m h1 (by omega)]
   have : w64 ((m : Int) + ((min m (n - m) : Nat) : Int)) = ((m + min m (n - m) : Nat) : Int) := by rw [w64_id (by omega) (by omega)]; omega
   simp only [this]
   exact ih
theorem ones_eq (n : Nat) (h1 : 1 ≤ n) (hn : n ≤ 8) : slices_Repeat_Lint_int [1] (n : Int) = some (List.replicate n 1) := by
 unfold slices_Repeat_Lint_int
 have e1 : ¬ ((n : Int) < 0) := by omega
 simp only [e1, decide_false, Bool.false_eq_true, if_false]
 unfold slices_Repeat_Lint_int_k1
 have e2 : IntKind.wrap .u64 ((([1] : List Int).length : Nat) : Int) = 1 := rfl
 have e3 : IntKind.wrap .u64 (n : Int) = (n : Int) := by
  have := IntWalk.u64_in (n : Int) ⟨by omega, by omega⟩
  exact this
 rw [e2, e3, mul_one n hn, Option.bind_some]
 have e4 : ¬ ((n : Int) > 9223372036854775807) := by omega
 simp only [show ¬ ((0 : Int) > 0) from by omega, e4, decide_false, Bool.or_self, Bool.false_eq_true, if_false]
 unfold slices_Repeat_Lint_int_k2
 have e5 : IntKind.wrap .i64 (n : Int) = (n : Int) := w64_id (by omega) (by omega)
 simp only [e5, Int.toNat_natCast]
 rw [guardO_bind_pos (by omega)]
 have e6 : copyAt (List.replicate n (0 : Int)) 0 [1] = List.replicate 1 (1 : Int) ++ List.replicate (n - 1) 0 := by
  obtain ⟨k, rfl⟩ : ∃ k, n = k + 1 := ⟨n - 1, by omega⟩
  simp [copyAt]
  first | done | (rw [show 1 - (k + 1) = 0 from by omega]; first | done | (rw [show min 1 (k + 1) = 1 from by omega]; first | done | simp))
 have e7 : (((min ([1] : List Int).length (List.replicate n (0 : Int)).length : Nat)) : Int) = ((1 : Nat) : Int) := by simp; omega
 rw [e6, e7, rep_loop n hn n 1 (by omega) (by omega) h1]
 rfl
theorem spec_ones (a : List (List Int)) (n : Nat) (hn : n ≤ 1048576) {body : (List Int × Int) → Option ((List Int × Int) ⊕ List Int)}
  (hb : ∀ x, body x = if (decide (x.2 < ((List.replicate (Int.toNat (n : Int)) (0 : Int)).length : Int))) = true then (idxO x.1 x.2).bind fun v9 => some (.inl ((x.1.set (Int.toNat x.2) 1), (w64 (x.2 + 1)))) else some (.inr x.1)) :
  loopO body (List.replicate n (0 : Int), 0) = some (List.replicate n 1) := by
 have hx := loop_idx (body := body) n (fun i => (tab n (fun k => if k < i then (1 : Int) else 0), (i : Int))) (List.replicate n 1) (fun i hi => by
  rw [hb]
  simp only [Int.toNat_natCast, List.length_replicate, show ((i : Int) < (n : Int)) from by omega, decide_true, if_true, idxO_tab hi, Option.bind_some, tab_set hi, w64_nat (show i < 9223372036854775807 by omega)]
  congr 3
  refine tab_ext fun k _ => ?_
  by_cases h : k = i
  ·subst h; simp
  ·simp only [h, if_false]
   by_cases h2 : k < i
   ·rw [if_pos h2, if_pos (by omega)]
   ·rw [if_neg h2, if_neg (by omega)]) (by
  rw [hb]
  simp only [Int.toNat_natCast, List.length_replicate, Int.lt_irrefl, decide_false, Bool.false_eq_true, if_false]
  congr 2
  rw [rep_tab]
  exact tab_ext fun k hk => by rw [if_pos hk])
 rw [rep_tab]
 exact hx
theorem ones_tab (n : Nat) : List.replicate n (1 : Int) = tab n fun _ => 1 := rep_tab n 1
def trimZ (c : List Int) : List Int := (c.reverse.dropWhile (· == 0)).reverse
end Go.PV

set_option linter.all false
namespace Go.PV
end Go.PV

/-
 Plain laws: vectors of walks, bounds of growth.
 Conditions: none.
-/
set_option linter.all false
namespace Go.PV
theorem isVec_tab {n : Nat} {v : Nat → Int} (h1 : 1 ≤ n) (hn : n ≤ 8) : isVec (tab n v) = true ↔ ∀ j, j < n → 1 ≤ v j ∧ v j ≤ 1000000 := by
 unfold isVec
 rw [tab_len, Bool.and_eq_true, tab_all]
 constructor
 ·exact fun h j hj => inB_iff.1 (h.2 j hj)
 ·exact fun h => ⟨inB_iff.2 ⟨by omega, by omega⟩, fun j hj => inB_iff.2 (h j hj)⟩
def vk (G : Nat → Nat → Int) (n : Nat) : Nat → Nat → Int
 | 0 => fun _ => 1
 | k + 1 => fun j => dotN (G j) (vk G n k) n + vk G n k j
def mxg (G : Nat → Nat → Int) (n : Nat) : Nat → Nat
 | 0 => 0
 | k + 1 => if mxg G n k = k ∧ isVec (tab n (vk G n (k + 1))) = true then k + 1 else mxg G n k
section
variable {n : Nat} {G : Nat → Nat → Int}
theorem mxg_le : ∀ k, mxg G n k ≤ k
 | 0 => Nat.le_refl _
 | k + 1 => by
  have := mxg_le k
  unfold mxg; split <;> omega
theorem mxg_good (h1 : 1 ≤ n) (hn : n ≤ 8) : ∀ k i, i ≤ mxg G n k → isVec (tab n (vk G n i)) = true
 | 0, i, h => by
  have : i = 0 := by simpa [mxg] using h
  subst this
  exact (isVec_tab h1 hn).2 fun j _ => by simp [vk]
 | k + 1, i, h => by
  unfold mxg at h
  split at h
  ·rename_i hc
   by_cases hi : i = k + 1
   ·subst hi; exact hc.2
   ·exact mxg_good h1 hn k i (by omega)
  ·exact mxg_good h1 hn k i h
theorem mxg_stop : ∀ k, mxg G n k = k ∨ isVec (tab n (vk G n (mxg G n k + 1))) = false
 | 0 => .inl rfl
 | k + 1 => by
  unfold mxg
  split
  ·exact .inl rfl
  ·rename_i hc
   right
   rcases mxg_stop k with h | h
   ·rw [h]
    cases hv : isVec (tab n (vk G n (k + 1))) with
    | false => rfl
    | true => exact absurd ⟨h, hv⟩ hc
   ·exact h
theorem vk_step (hn : n ≤ 8) (hG : ∀ i j, i < n → j < n → 0 ≤ G i j ∧ G i j ≤ 9) {v : Nat → Int} (hv : ∀ j, j < n → 1 ≤ v j ∧ v j ≤ 1000000) {j : Nat} (hj : j < n) : w64 (dotN (G j) v n + v j) = dotN (G j) v n + v j ∧ w64 (v j + dotN (G j) v n) = dotN (G j) v n + v j := by
 have b := dotN_bound n (Nat.le_refl n) (fun i hi => hG j i hj hi) hv
 have c := hv j hj
 exact ⟨w64_id (by omega) (by omega), by rw [w64_id (by omega) (by omega)]; omega⟩
theorem spec_wv2 (hn : n ≤ 8) (hG : ∀ i j, i < n → j < n → 0 ≤ G i j ∧ G i j ≤ 9) {v : Nat → Int} (hv : ∀ j, j < n → 1 ≤ v j ∧ v j ≤ 1000000) :
  loopO (spec_gwWalks_b2 (tab n fun j => dotN (G j) v n)) (tab n v, 0) = some (tab n fun j => dotN (G j) v n + v j) := by
 have h := loop_idx (body := spec_gwWalks_b2 (tab n fun j => dotN (G j) v n)) n (fun i => (tab n (fun j => if j < i then dotN (G j) v n + v j else v j), (i : Int))) (tab n fun j => dotN (G j) v n + v j) (fun i hi => by
  simp only [spec_gwWalks_b2, tab_len, idxO_tab hi, Option.bind_some, show ((i : Int) < (n : Int)) from by omega, decide_true, if_true, Nat.lt_irrefl, if_false, w64_nat (show i < 9223372036854775807 by omega), Int.toNat_natCast, (vk_step hn hG hv hi).2, tab_set hi]
  congr 3
  refine tab_ext fun k hk => ?_
  by_cases h : k = i
  ·subst h; simp
  ·simp only [h, if_false]
   by_cases h2 : k < i
   ·rw [if_pos h2, if_pos (by omega)]
   ·rw [if_neg h2, if_neg (by omega)]) (by
  simp only [spec_gwWalks_b2, tab_len, Int.lt_irrefl, decide_false, Bool.false_eq_true, if_false]
  congr 2
  exact tab_ext fun k hk => by rw [if_pos hk])
 simpa using h
theorem spec_gwWalks_eq (h1 : 1 ≤ n) (hn : n ≤ 8) (hG : ∀ i j, i < n → j < n → 0 ≤ G i j ∧ G i j ≤ 9) (K : Nat) (hK : K ≤ 1048576) :
  spec_gwWalks (mat n n G) (K : Int) = some (if mxg G n K = K then (tab n (vk G n K), true) else ([], false)) := by
 have hle := mxg_le (G := G) (n := n) K
 have hx := loop_idx (body := spec_gwWalks_b1 (mat n n G)) (mxg G n K) (fun i => ((K : Int) - i, tab n (vk G n i))) (if mxg G n K = K then .inr (tab n (vk G n K)) else .inl ([], false)) (fun i hi => by
  have hv := (isVec_tab h1 hn).1 (mxg_good (G := G) h1 hn K i (by omega))
  have hv2 := mxg_good (G := G) h1 hn K (i + 1) (by omega)
  have e : (tab n fun j => dotN (G j) (vk G n i) n + vk G n i j) = tab n (vk G n (i + 1)) := rfl
  simp only [spec_gwWalks_b1, show ((K : Int) - (i : Int) > 0) from by omega, decide_true, if_true, spec_gwTimes_eq hn hG hv, Option.bind_some, spec_wv2 hn hG hv, e, spec_gwWalks_k4]
  rw [spec_gwVector_eq _ (by rw [tab_len]; omega), Option.bind_some, hv2]
  simp only [Bool.not_true, Bool.false_eq_true, if_false, spec_gwWalks_k3]
  rw [w64_id (by omega) (by omega)]
  congr 3
  omega) (by
  rcases mxg_stop (G := G) (n := n) K with h | h
  ·rw [if_pos h]
   have : ¬ ((K : Int) - (K : Int) > 0) := by omega
   simp only [spec_gwWalks_b1, h, this, decide_false, Bool.false_eq_true, if_false]
  ·by_cases hlt : mxg G n K < K
   ·have hv := (isVec_tab h1 hn).1 (mxg_good (G := G) h1 hn K (mxg G n K) (Nat.le_refl _))
    have e : (tab n fun j => dotN (G j) (vk G n (mxg G n K)) n + vk G n (mxg G n K) j) = tab n (vk G n (mxg G n K + 1)) := rfl
    rw [if_neg (by omega)]
    simp only [spec_gwWalks_b1, show ((K : Int) - ((mxg G n K : Nat) : Int) > 0) from by omega, decide_true, if_true, spec_gwTimes_eq hn hG hv, Option.bind_some, spec_wv2 hn hG hv, e, spec_gwWalks_k4]
    rw [spec_gwVector_eq _ (by rw [tab_len]; omega), Option.bind_some, h]
    rfl
   ·have hKK : mxg G n K = K := by omega
    rw [if_pos hKK]
    have : ¬ ((K : Int) - (K : Int) > 0) := by omega
    simp only [spec_gwWalks_b1, hKK, this, decide_false, Bool.false_eq_true, if_false])
 unfold spec_gwWalks
 rw [mat_len, guardO_bind_pos (by omega), Int.toNat_natCast, spec_ones (body := spec_gwWalks_b3 (mat n n G)) (mat n n G) n (by omega) (fun x => by simp only [spec_gwWalks_b3, mat_len]), Option.bind_some, ones_tab]
 unfold spec_gwWalks_k1
 have hx' : loopO (spec_gwWalks_b1 (mat n n G)) ((K : Int), tab n (fun _ => (1 : Int))) = some (if mxg G n K = K then .inr (tab n (vk G n K)) else .inl ([], false)) := by
  have e : ((K : Int) - ((0 : Nat) : Int)) = (K : Int) := by omega
  simp only [e] at hx
  exact hx
 rw [hx']
 by_cases h : mxg G n K = K
 ·rw [if_pos h, if_pos h]; rfl
 ·rw [if_neg h, if_neg h]; rfl
def bestT (G : Nat → Nat → Int) (n : Nat) : (Int × Int) × (Int × Int) × Int × Bool := (mnN (ratN G (vk G n (mxg G n 20)) n) n, mxN (ratN G (vk G n (mxg G n 20)) n) n, ((mxg G n 20 : Nat) : Int), true)
end
end Go.PV

/-
 Plain laws: WalkVector.
 Conditions: none.
-/
set_option linter.all false
namespace Go.PV
section
variable {n : Nat} {G : Nat → Nat → Int}
theorem implO_wv2 (hn : n ≤ 8) (hG : ∀ i j, i < n → j < n → 0 ≤ G i j ∧ G i j ≤ 9) {v : Nat → Int} (hv : ∀ j, j < n → 1 ≤ v j ∧ v j ≤ 1000000) :
  loopO (impl_walkVectorsO_b2 (tab n v) (tab n fun j => dotN (G j) v n)) (tab n fun j => dotN (G j) v n, 0) = some (tab n fun j => dotN (G j) v n + v j) := by
 have h := loop_idx (body := impl_walkVectorsO_b2 (tab n v) (tab n fun j => dotN (G j) v n)) n (fun i => (tab n (fun j => if j < i then dotN (G j) v n + v j else dotN (G j) v n), (i : Int))) (tab n fun j => dotN (G j) v n + v j) (fun i hi => by
  simp only [impl_walkVectorsO_b2, tab_len, idxO_tab hi, Option.bind_some, show ((i : Int) < (n : Int)) from by omega, decide_true, if_true, Nat.lt_irrefl, if_false, w64_nat (show i < 9223372036854775807 by omega), Int.toNat_natCast, (vk_step hn hG hv hi).1, tab_set hi]
  congr 3
  refine tab_ext fun k hk => ?_
  by_cases h : k = i
  ·subst h; simp
  ·simp only [h, if_false]
   by_cases h2 : k < i
   ·rw [if_pos h2, if_pos (by omega)]
   ·rw [if_neg h2, if_neg (by omega)]) (by
  simp only [impl_walkVectorsO_b2, tab_len, Int.lt_irrefl, decide_false, Bool.false_eq_true, if_false]
  congr 2
  exact tab_ext fun k hk => by rw [if_pos hk])
 simpa using h
theorem last_tab {α : Type} (i : Nat) (f : Nat → α) : idxO (tab (i + 1) f) (((tab (i + 1) f).length : Int) - 1) = some (f i) := by
 rw [tab_len, show (((i + 1 : Nat) : Int) - 1) = (i : Int) by omega]
 exact idxO_tab (by omega)
theorem implO_walkVectors_eq (h1 : 1 ≤ n) (hn : n ≤ 8) (hG : ∀ i j, i < n → j < n → 0 ≤ G i j ∧ G i j ≤ 9) (K : Nat) (hK : K ≤ 1048576) :
  impl_walkVectorsO (mat n n G) (K : Int) = some (tab (mxg G n K + 1) fun i => tab n (vk G n i)) := by
 have hle := mxg_le (G := G) (n := n) K
 have hx := loop_idx (body := impl_walkVectorsO_b1 (mat n n G) (K : Int)) (mxg G n K) (fun i => (tab (i + 1) (fun i => tab n (vk G n i)), (i : Int))) (tab (mxg G n K + 1) fun i => tab n (vk G n i)) (fun i hi => by
  have hv := (isVec_tab h1 hn).1 (mxg_good (G := G) h1 hn K i (by omega))
  have hv2 := mxg_good (G := G) h1 hn K (i + 1) (by omega)
  have e : (tab n fun j => dotN (G j) (vk G n i) n + vk G n i j) = tab n (vk G n (i + 1)) := rfl
  simp only [impl_walkVectorsO_b1, show ((i : Int) < (K : Int)) from by omega, decide_true, if_true, last_tab, impl_times_eq hn hG hv, Option.bind_some, implO_wv2 hn hG hv, e, impl_walkVectorsO_k3]
  rw [impl_isVector_eq _ (by rw [tab_len]; omega), Option.bind_some, hv2]
  simp only [Bool.not_true, Bool.false_eq_true, if_false]
  rw [guardO_bind_pos (by rw [tab_len]; omega)]
  simp only [impl_walkVectorsO_k2, w64_nat (show i < 9223372036854775807 by omega), tab_succ (i + 1) (fun i => tab n (vk G n i))]) (by
  rcases mxg_stop (G := G) (n := n) K with h | h
  ·have : ¬ (((mxg G n K : Nat) : Int) < (K : Int)) := by omega
   simp only [impl_walkVectorsO_b1, this, decide_false, Bool.false_eq_true, if_false]
  ·by_cases hlt : mxg G n K < K
   ·have hv := (isVec_tab h1 hn).1 (mxg_good (G := G) h1 hn K (mxg G n K) (Nat.le_refl _))
    have e : (tab n fun j => dotN (G j) (vk G n (mxg G n K)) n + vk G n (mxg G n K) j) = tab n (vk G n (mxg G n K + 1)) := rfl
    simp only [impl_walkVectorsO_b1, show (((mxg G n K : Nat) : Int) < (K : Int)) from by omega, decide_true, if_true, last_tab, impl_times_eq hn hG hv, Option.bind_some, implO_wv2 hn hG hv, e, impl_walkVectorsO_k3]
    rw [impl_isVector_eq _ (by rw [tab_len]; omega), Option.bind_some, h]
    rfl
   ·have : ¬ (((mxg G n K : Nat) : Int) < (K : Int)) := by omega
    simp only [impl_walkVectorsO_b1, this, decide_false, Bool.false_eq_true, if_false])
 unfold impl_walkVectorsO
 rw [mat_len, ones_eq n h1 hn, Option.bind_some, ones_tab]
 have hx' : loopO (impl_walkVectorsO_b1 (mat n n G) (K : Int)) ([tab n (fun _ => (1 : Int))], 0) = some (tab (mxg G n K + 1) fun i => tab n (vk G n i)) := hx
 rw [hx']
 rfl
end
theorem both_WalkVector (g : List (List Int)) (k : Int) (hg : sized g) : ∃ r ok, r.length ≤ 8 ∧ spec_WalkVector g k = some (r, ok) ∧ impl_WalkVectorO g k = some (r, ok) := by
 have e1 := spec_grGood_eq g hg
 have e2 := impl_isGraph_eq g hg
 unfold spec_WalkVector impl_WalkVectorO
 rw [e1, e2]
 cases h : isGraph g
 ·exact ⟨[], false, by simp, by simp, by simp⟩
 ·cases hk : inB 0 20 k
  ·exact ⟨[], false, by simp, by simp [spec_gwSteps, spec_l1In_eq, hk], by simp [impl_within_eq, hk]⟩
  ·obtain ⟨n, G, h1, h2, rfl, hG⟩ := isGraph_mat h
   have hk' := inB_iff.1 hk
   obtain ⟨K, rfl⟩ := Int.eq_ofNat_of_zero_le hk'.1
   have hK : K ≤ 20 := by omega
   have hle := mxg_le (G := G) (n := n) K
   simp only [Option.bind_some, Bool.not_true, Bool.false_eq_true, if_false, spec_gwSteps, spec_l1In_eq, impl_within_eq, hk]
   have w1 := spec_gwWalks_eq h1 h2 hG K (by omega)
   have w2 := implO_walkVectors_eq h1 h2 hG K (by omega)
   simp only [w1, w2, Option.bind_some, tab_len]
   by_cases hm : mxg G n K = K
   ·have hnle : ¬ (((mxg G n K + 1 : Nat) : Int) ≤ (K : Int)) := by omega
    refine ⟨tab n (vk G n K), true, by rw [tab_len]; exact h2, by rw [if_pos hm], ?_⟩
    simp only [hnle, decide_false, Bool.false_eq_true, if_false, idxO_tab (show K < mxg G n K + 1 by omega), Option.bind_some]
   ·have hnle : (((mxg G n K + 1 : Nat) : Int) ≤ (K : Int)) := by omega
    exact ⟨[], false, by simp, by rw [if_neg hm], by simp only [hnle, decide_true, if_true]⟩
theorem laws_FnExactWalkVector_eq (g : List (List Int)) (k : Int) (hl : g.length ≤ 9223372036854775807) (hr : ∀ row ∈ g, row.length ≤ 9223372036854775807) : laws_FnExactWalkVector g k = some true := by
 obtain ⟨v, h1, h2⟩ := laws_szIntSS_eq g hl hr
 unfold laws_FnExactWalkVector
 rw [h1, Option.bind_some]
 by_cases hv : v < 0
 ·simp [hv]
 ·have hs := h2 (by omega)
  obtain ⟨r, ok, e0, e1, e2⟩ := both_WalkVector g k hs
  obtain ⟨k', g', e3, e4, e5⟩ := laws_markIntSS_eq g hs
  have e7 : ¬ (k' < 0) := by omega
  have e8 : ¬ ((1 : Int) + (r.length : Int) < 0) := by omega
  simp only [hv, decide_false, Bool.false_eq_true, if_false, laws_toIntSS_eq g hs, e1, e2, laws_eqIntS_self r (by omega), laws_eqIntSS_self g hs, Option.bind_some, e3, e7,
   laws_markIntS_eq r 1 (by omega) (by omega), laws_heldIntS_eq r.length 1 (by omega) (by omega), beq_self_eq_true, Bool.not_true, Bool.or_self, bne_self_eq_false, e8]
end Go.PV
