/-
  Plain laws of what the functions answer.
  Conditions: none.
-/
import Derived.KernelRfl
import Derived.Test.YtgebigiffoiagaaPvCx
import Derived.Test.YtgebigiffoiagaaDf
set_option linter.all false
/-
 Plain laws: bounds, lists of numbers, vectors.
 Conditions: none.
-/
namespace Go.PV
def inB (a b n : Int) : Bool := decide (a ≤ n) && decide (n ≤ b)
theorem inB_iff {a b n : Int} : inB a b n = true ↔ a ≤ n ∧ n ≤ b := by simp [inB]
theorem spec_l1In_eq (v a b : Int) : spec_l1In v a b = some (inB a b v) := rfl
theorem impl_within_eq (v a b : Int) : impl_within v a b = some (inB a b v) := rfl
theorem spec_l1All_eq (xs : List Int) (a b : Int) (hl : xs.length ≤ 4611686018427387904) : spec_l1All xs a b = some (xs.all (inB a b)) := by
 have h := loop_any (xs := xs) (body := spec_l1All_b1 xs a b) (fun x => !inB a b x) (fun i => (i : Int)) (.inl false) (.inr ()) (fun i x hx => by
  have hi := getElem?_lt hx
  simp only [spec_l1All_b1, idxO_nat, hx, spec_l1In_eq, Option.bind_some, w64_nat (show i < 9223372036854775807 by omega), show ((i : Int) < (xs.length : Int)) from by omega, decide_true, if_true]
  cases inB a b x <;> rfl) (by simp [spec_l1All_b1])
 unfold spec_l1All
 rw [show (0 : Int) = ((0 : Nat) : Int) from rfl, h, List.any_eq_not_all_not]
 simp only [Bool.not_not]
 cases xs.all (inB a b) <;> rfl
def isVec (xs : List Int) : Bool := inB 1 8 xs.length && xs.all (inB 1 1000000)
theorem slices_IndexFunc_Lint_int_eq (xs : List Int) (f : Int → Option Bool) (p : Int → Bool) (hf : ∀ x, f x = some (p x)) (hl : xs.length ≤ 4611686018427387904) :
  slices_IndexFunc_Lint_int xs f = some (match xs.findIdx? p with | some i => (i : Int) | none => -1) := by
 have h := loop_first (xs := xs) (body := slices_IndexFunc_Lint_int_b1 xs f) p (fun i => (i : Int)) (fun i => .inl (i : Int)) (.inr ()) (fun i x hx => by
  have hi := getElem?_lt hx
  simp only [slices_IndexFunc_Lint_int_b1, idxO_nat, hx, hf, Option.bind_some, w64_nat (show i < 9223372036854775807 by omega), show ((i : Int) < (xs.length : Int)) from by omega, decide_true, if_true]
  cases p x <;> rfl) (by simp [slices_IndexFunc_Lint_int_b1])
 unfold slices_IndexFunc_Lint_int
 rw [show (0 : Int) = ((0 : Nat) : Int) from rfl, h]
 cases xs.findIdx? p <;> rfl
theorem slices_ContainsFunc_Lint_int_eq (xs : List Int) (f : Int → Option Bool) (p : Int → Bool) (hf : ∀ x, f x = some (p x)) (hl : xs.length ≤ 4611686018427387904) : slices_ContainsFunc_Lint_int xs f = some (xs.any p) := by
 simp only [slices_ContainsFunc_Lint_int, slices_IndexFunc_Lint_int_eq xs f p hf hl, Option.bind_some]
 cases h : xs.findIdx? p with
 | none =>
  have hn := List.findIdx?_eq_none_iff.1 h
  have : xs.any p = false := by simpa using hn
  simp [this]
 | some m =>
  obtain ⟨hm, hp, _⟩ := List.findIdx?_eq_some_iff_getElem.1 h
  have : xs.any p = true := by simp; exact ⟨xs[m], List.getElem_mem hm, hp⟩
  simp [this]
theorem laws_eqIntS_self (xs : List Int) (hl : xs.length ≤ 4611686018427387904) : laws_eqIntS xs xs = some true := by
 have h := loop_idx (body := laws_eqIntS_b1 xs xs) xs.length (fun i => (i : Int)) (.inr ()) (fun i hi => by
  simp only [laws_eqIntS_b1, idxO_lt hi, Option.bind_some, w64_nat (show i < 9223372036854775807 by omega), show ((i : Int) < (xs.length : Int)) from by omega, decide_true, if_true]
  simp) (by simp [laws_eqIntS_b1])
 unfold laws_eqIntS
 rw [show (0 : Int) = ((0 : Nat) : Int) from rfl, h]
 simp [laws_eqIntS_k1]
end Go.PV

/-
 Plain laws: lists and tables by their places.
 Conditions: none.
-/
namespace Go.PV
section
variable {α β : Type}
def tab (n : Nat) (f : Nat → α) : List α := (List.range n).map f
theorem tab_len (n : Nat) (f : Nat → α) : (tab n f).length = n := by simp [tab]
theorem tab_get {n i : Nat} {f : Nat → α} (h : i < n) : (tab n f)[i]? = some (f i) := by simp [tab, h]
theorem tab_get_none {n i : Nat} {f : Nat → α} (h : n ≤ i) : (tab n f)[i]? = none := by simp [tab, h]
theorem idxO_tab {n i : Nat} {f : Nat → α} (h : i < n) : idxO (tab n f) (i : Int) = some (f i) := by rw [idxO_nat, tab_get h]
theorem tab_ext {n : Nat} {f g : Nat → α} (h : ∀ i, i < n → f i = g i) : tab n f = tab n g := List.map_congr_left fun i hi => h i (List.mem_range.1 hi)
theorem tab_set {n i : Nat} {f : Nat → α} {v : α} (h : i < n) : (tab n f).set i v = tab n (fun k => if k = i then v else f k) := by
 apply List.ext_getElem?
 intro j
 rw [List.getElem?_set]
 by_cases hij : i = j
 ·subst hij
  rw [if_pos rfl, if_pos (by rw [tab_len]; exact h), tab_get h, if_pos rfl]
 ·rw [if_neg hij]
  by_cases hj : j < n
  ·rw [tab_get hj, tab_get hj, if_neg (Ne.symm hij)]
  ·rw [tab_get_none (by omega), tab_get_none (by omega)]
theorem rep_tab (n : Nat) (v : α) : List.replicate n v = tab n (fun _ => v) := by
 apply List.ext_getElem?
 intro j
 by_cases hj : j < n
 ·rw [tab_get hj]; simp [hj]
 ·rw [tab_get_none (by omega)]; simp [hj]
theorem tab_succ (n : Nat) (f : Nat → α) : tab n f ++ [f n] = tab (n + 1) f := by simp [tab, List.range_succ]
theorem tab_zero (f : Nat → α) : tab 0 f = [] := rfl
theorem tab_eta [Inhabited α] (xs : List α) : xs = tab xs.length (fun i => xs.getD i default) := by
 apply List.ext_getElem?
 intro j
 by_cases hj : j < xs.length
 ·rw [tab_get hj]; simp [hj]
 ·rw [tab_get_none (by omega)]; simp; omega
theorem tab_map {n : Nat} {f : Nat → α} (g : α → β) : (tab n f).map g = tab n (fun i => g (f i)) := by simp [tab]
theorem tab_mem {n : Nat} {f : Nat → α} {x : α} : x ∈ tab n f ↔ ∃ i, i < n ∧ f i = x := by simp [tab]
theorem tab_all {n : Nat} {f : Nat → α} {p : α → Bool} : (tab n f).all p = true ↔ ∀ i, i < n → p (f i) = true := by simp [tab]
def mat (n m : Nat) (f : Nat → Nat → α) : List (List α) := tab n fun i => tab m (f i)
theorem mat_ext {n m : Nat} {f g : Nat → Nat → α} (h : ∀ i j, i < n → j < m → f i j = g i j) : mat n m f = mat n m g := tab_ext fun i hi => tab_ext fun j hj => h i j hi hj
theorem mat_set2 {n m i j : Nat} {f : Nat → Nat → α} {r : Nat → α} {v : α} (hi : i < n) (hj : j < m) : (mat n m f).set i ((tab m r).set j v) = mat n m (fun a b => if a = i then (if b = j then v else r b) else f a b) := by
 unfold mat
 rw [tab_set hi, tab_set hj]
 refine tab_ext fun a _ => ?_
 by_cases ha : a = i
 ·subst ha; simp
 ·rw [if_neg ha]; exact tab_ext fun b _ => by simp [ha]
theorem mat_len (n m : Nat) (f : Nat → Nat → α) : (mat n m f).length = n := tab_len _ _
theorem idxO_mat {n m i : Nat} {f : Nat → Nat → α} (h : i < n) : idxO (mat n m f) (i : Int) = some (tab m (f i)) := idxO_tab h
def foldN (n : Nat) (g : β → Nat → β) (s : β) : β := (List.range n).foldl g s
theorem foldN_succ (n : Nat) (g : β → Nat → β) (s : β) : foldN (n + 1) g s = g (foldN n g s) n := by simp [foldN, List.range_succ]
theorem foldN_zero (g : β → Nat → β) (s : β) : foldN 0 g s = s := rfl
theorem foldN_ext {n : Nat} {g h : β → Nat → β} {s : β} (H : ∀ b i, i < n → g b i = h b i) : foldN n g s = foldN n h s := by
 induction n with
 | zero => rfl
 | succ n ih => rw [foldN_succ, foldN_succ, ih fun b i hi => H b i (by omega), H _ _ (by omega)]
end
end Go.PV

/-
 Plain laws: graphs, numbers of walks.
 Conditions: none.
-/
namespace Go.PV
def sized (g : List (List Int)) : Prop := g.length ≤ 1048576 ∧ ∀ row ∈ g, row.length ≤ 1048576
theorem laws_eqIntSS_self (g : List (List Int)) (h : sized g) : laws_eqIntSS g g = some true := by
 obtain ⟨hl, hr⟩ := h
 have h := loop_idx (body := laws_eqIntSS_b1 g g) g.length (fun i => (i : Int)) (.inr ()) (fun i hi => by
  simp only [laws_eqIntSS_b1, idxO_lt hi, Option.bind_some, laws_eqIntS_self g[i] (by have := hr g[i] (List.getElem_mem hi); omega), w64_nat (show i < 9223372036854775807 by omega), show ((i : Int) < (g.length : Int)) from by omega, decide_true, if_true]
  simp) (by simp [laws_eqIntSS_b1])
 unfold laws_eqIntSS
 rw [show (0 : Int) = ((0 : Nat) : Int) from rfl, h]
 simp [laws_eqIntSS_k1]
def isGraph (g : List (List Int)) : Bool := inB 1 8 g.length && g.all fun row => (row.length : Int) == g.length && row.all (inB 0 9)
theorem contains_LL (xs : List (List Int)) (f : List Int → Option Bool) (p : List Int → Bool) (hf : ∀ x ∈ xs, f x = some (p x)) (hl : xs.length ≤ 4611686018427387904) : slices_ContainsFunc_LLint_Lint xs f = some (xs.any p) := by
 have h := loop_first (xs := xs) (body := slices_IndexFunc_LLint_Lint_b1 xs f) p (fun i => (i : Int)) (fun i => .inl (i : Int)) (.inr ()) (fun i x hx => by
  have hi := getElem?_lt hx
  simp only [slices_IndexFunc_LLint_Lint_b1, idxO_nat, hx, hf x (List.mem_of_getElem? hx), Option.bind_some, w64_nat (show i < 9223372036854775807 by omega), show ((i : Int) < (xs.length : Int)) from by omega, decide_true, if_true]
  cases p x <;> rfl) (by simp [slices_IndexFunc_LLint_Lint_b1])
 unfold slices_ContainsFunc_LLint_Lint slices_IndexFunc_LLint_Lint
 rw [show (0 : Int) = ((0 : Nat) : Int) from rfl, h]
 cases hx : xs.findIdx? p with
 | none =>
  have hn := List.findIdx?_eq_none_iff.1 hx
  have : xs.any p = false := by simpa using hn
  simp [this, slices_IndexFunc_LLint_Lint_k1]
 | some m =>
  obtain ⟨hm, hp, _⟩ := List.findIdx?_eq_some_iff_getElem.1 hx
  have : xs.any p = true := by simp; exact ⟨xs[m], List.getElem_mem hm, hp⟩
  simp [this]
theorem impl_isGraph_1_1_eq (x : Int) : impl_isGraph_1_1 x = some (!inB 0 9 x) := by simp [impl_isGraph_1_1, impl_within_eq]
theorem impl_isGraph_1_eq (row : List Int) (g : List (List Int)) (hl : row.length ≤ 4611686018427387904) : impl_isGraph_1 row g = some (!((row.length : Int) == g.length && row.all (inB 0 9))) := by
 unfold impl_isGraph_1
 rw [slices_ContainsFunc_Lint_int_eq row (fun x0 => impl_isGraph_1_1 x0) _ impl_isGraph_1_1_eq hl]
 by_cases hc : (row.length : Int) = g.length
 ·simp [hc, List.any_eq_not_all_not]
 ·simp [hc]
theorem impl_isGraph_eq (g : List (List Int)) (h : sized g) : impl_isGraph g = some (isGraph g) := by
 obtain ⟨hl, hr⟩ := h
 unfold impl_isGraph
 rw [impl_within_eq, Option.bind_some, contains_LL g (fun x0 => impl_isGraph_1 x0 g) _ (fun x hx => impl_isGraph_1_eq x g (by have := hr x hx; omega)) (by omega)]
 simp only [Option.bind_some, isGraph, List.any_eq_not_all_not, Bool.not_not]
 cases inB 1 8 g.length <;> rfl
theorem spec_grGood_eq (g : List (List Int)) (h : sized g) : spec_grGood g = some (isGraph g) := by
 obtain ⟨hl, hr⟩ := h
 have hx := loop_any (xs := g) (body := spec_grGood_b1 g) (fun row => !((row.length : Int) == g.length && row.all (inB 0 9))) (fun i => (i : Int)) (.inl false) (.inr ()) (fun i x hx => by
  have hi := getElem?_lt hx
  have hlx := hr x (List.mem_of_getElem? hx)
  simp only [spec_grGood_b1, idxO_nat, hx, Option.bind_some, spec_l1All_eq x 0 9 (by omega), w64_nat (show i < 9223372036854775807 by omega), show ((i : Int) < (g.length : Int)) from by omega, decide_true, if_true, bne]
  cases (x.length : Int) == g.length
  ·rfl
  ·cases x.all (inB 0 9) <;> rfl) (by simp [spec_grGood_b1])
 unfold spec_grGood isGraph
 rw [spec_l1In_eq, Option.bind_some, show (0 : Int) = ((0 : Nat) : Int) from rfl, hx, List.any_eq_not_all_not]
 simp only [Bool.not_not]
 cases inB 1 8 g.length
 ·rfl
 ·simp only [Bool.not_true, Bool.false_eq_true, if_false, Bool.true_and, Option.bind_some]
  cases (g.all fun row => (row.length : Int) == g.length && row.all (inB 0 9)) <;> rfl
theorem isGraph_mat {g : List (List Int)} (h : isGraph g = true) : ∃ (n : Nat) (G : Nat → Nat → Int), 1 ≤ n ∧ n ≤ 8 ∧ g = mat n n G ∧ ∀ i j, i < n → j < n → 0 ≤ G i j ∧ G i j ≤ 9 := by
 simp only [isGraph, Bool.and_eq_true, inB_iff, List.all_eq_true, beq_iff_eq] at h
 obtain ⟨⟨h1, h2⟩, h3⟩ := h
 refine ⟨g.length, fun i j => (g.getD i []).getD j 0, by omega, by omega, ?_, fun i j hi hj => ?_⟩
 ·refine (tab_eta g).trans (tab_ext fun i hi => ?_)
  have hlen := (h3 g[i] (List.getElem_mem hi)).1
  have e : g.getD i default = g[i] := by simp [hi]
  have e2 : g.getD i [] = g[i] := by simp [hi]
  rw [e]
  show g[i] = tab g.length (fun j => (g.getD i []).getD j 0)
  rw [e2]
  refine (tab_eta g[i]).trans ?_
  rw [show g[i].length = g.length by omega]
  rfl
 ·have hrow := h3 g[i] (List.getElem_mem hi)
  have e : g.getD i [] = g[i] := by simp [hi]
  have hj' : j < g[i].length := by omega
  have e2 : g[i].getD j 0 = g[i][j] := by simp [hj']
  simp only [e, e2]
  exact hrow.2 _ (List.getElem_mem hj')
end Go.PV

/-
 Plain laws: powers of graphs' tables, numbers of all walks.
 Conditions: none.
-/
namespace Go.PV
def capMul (most acc w a : Int) : Int := if most < w64 (acc + w64 (w * a)) then most else w64 (acc + w64 (w * a))
def powStep (n : Nat) (G : Nat → Nat → Int) (most : Int) (F : Nat → Nat → Int) : Nat → Nat → Int := fun i j => foldN n (fun acc k => capMul most acc (F i k) (G k j)) 0
def idM : Nat → Nat → Int := fun i j => if i = j then 1 else 0
def powN (n : Nat) (G : Nat → Nat → Int) (most : Int) : Nat → Nat → Nat → Int
 | 0 => idM
 | m + 1 => powStep n G most (powN n G most m)
theorem impl_emptyGraph_eq (n : Nat) (hn : n ≤ 1048576) : impl_emptyGraph (n : Int) = some (mat n n fun _ _ => 0) := by
 have hx := loop_idx (body := impl_emptyGraph_b1 (n : Int)) n (fun i => (tab n (fun a => if a < i then tab n (fun _ => (0 : Int)) else []), (i : Int))) (mat n n fun _ _ => 0) (fun i hi => by
  simp only [impl_emptyGraph_b1, Int.toNat_natCast, List.length_replicate, idxO_tab hi, Option.bind_some, w64_nat (show i < 9223372036854775807 by omega), show ((i : Int) < (n : Int)) from by omega, decide_true, if_true]
  rw [tab_set hi, rep_tab]
  congr 3
  refine tab_ext fun a _ => ?_
  by_cases h1 : a = i
  ·subst h1; simp
  ·by_cases h2 : a < i
   ·simp [h1, h2, show a < i + 1 by omega]
   ·simp [h1, h2, show ¬ a < i + 1 by omega]) (by
  simp only [impl_emptyGraph_b1, Int.toNat_natCast, List.length_replicate, Int.lt_irrefl, decide_false, Bool.false_eq_true, if_false]
  congr 2
  exact tab_ext fun a ha => by simp [ha])
 unfold impl_emptyGraph
 rw [guardO_bind_pos (by omega), Int.toNat_natCast, rep_tab]
 simp only [Nat.not_lt_zero, if_false] at hx
 rw [show (0 : Int) = ((0 : Nat) : Int) from rfl, hx]
 rfl
section impl
variable {n : Nat} {G : Nat → Nat → Int} {most : Int}
theorem impl_b4 (hn : n ≤ 8) {i k : Nat} (hi : i < n) (N : Nat → Nat → Int) (X : List (List Int)) (w : Int) :
  loopO (impl_powerUpTo_b4 most (X, (i : Int)) w (tab n (G k))) (mat n n N, 0) = some (mat n n (fun a b => if a = i then capMul most (N a b) w (G k b) else N a b)) := by
 have hx := loop_idx (body := impl_powerUpTo_b4 most (X, (i : Int)) w (tab n (G k))) n (fun j => (mat n n (fun a b => if a = i ∧ b < j then capMul most (N a b) w (G k b) else N a b), (j : Int))) (mat n n (fun a b => if a = i then capMul most (N a b) w (G k b) else N a b)) (fun j hj => by
  simp only [impl_powerUpTo_b4, tab_len, idxO_tab hj, idxO_mat hi, Option.bind_some, w64_nat (show j < 9223372036854775807 by omega), show ((j : Int) < (n : Int)) from by omega, decide_true, if_true, Int.toNat_natCast]
  rw [mat_set2 hi hj]
  congr 3
  refine mat_ext fun a b _ _ => ?_
  by_cases ha : a = i
  ·subst ha
   by_cases hb : b = j
   ·subst hb; simp [capMul]
   ·by_cases h2 : b < j
    ·simp [hb, h2, show b < j + 1 by omega]
    ·simp [hb, h2, show ¬ b < j + 1 by omega]
  ·simp [ha]) (by
  simp only [impl_powerUpTo_b4, tab_len, Int.lt_irrefl, decide_false, Bool.false_eq_true, if_false]
  congr 2
  exact mat_ext fun a b _ hb => by simp [hb])
 simpa using hx
theorem impl_b3 (hn : n ≤ 8) {i : Nat} (hi : i < n) (N : Nat → Nat → Int) (X : List (List Int)) (w : Nat → Int) :
  loopO (impl_powerUpTo_b3 (mat n n G) most (X, (i : Int)) (tab n w)) (mat n n N, 0) = some (mat n n (fun a b => if a = i then foldN n (fun acc k => capMul most acc (w k) (G k b)) (N a b) else N a b)) := by
 have hx := loop_idx (body := impl_powerUpTo_b3 (mat n n G) most (X, (i : Int)) (tab n w)) n (fun k => (mat n n (fun a b => if a = i then foldN k (fun acc k => capMul most acc (w k) (G k b)) (N a b) else N a b), (k : Int))) (mat n n (fun a b => if a = i then foldN n (fun acc k => capMul most acc (w k) (G k b)) (N a b) else N a b)) (fun k hk => by
  simp only [impl_powerUpTo_b3, tab_len, idxO_tab hk, idxO_mat hk, Option.bind_some, impl_b4 hn hi, impl_powerUpTo_k6, w64_nat (show k < 9223372036854775807 by omega), show ((k : Int) < (n : Int)) from by omega, decide_true, if_true]
  congr 3
  refine mat_ext fun a b _ _ => ?_
  by_cases ha : a = i
  ·subst ha; simp [foldN_succ]
  ·simp [ha]) (by simp only [impl_powerUpTo_b3, tab_len, Int.lt_irrefl, decide_false, Bool.false_eq_true, if_false])
 simp only [foldN_zero] at hx
 rw [show (fun a b => if a = i then N a b else N a b) = N from by funext a b; split <;> rfl] at hx
 simpa using hx
theorem impl_b2 (hn : n ≤ 8) (F : Nat → Nat → Int) (t : Int) :
  loopO (impl_powerUpTo_b2 (mat n n G) most (mat n n F, t)) (mat n n (fun _ _ => 0), 0) = some (mat n n (powStep n G most F)) := by
 have hx := loop_idx (body := impl_powerUpTo_b2 (mat n n G) most (mat n n F, t)) n (fun i => (mat n n (fun a b => if a < i then powStep n G most F a b else 0), (i : Int))) (mat n n (powStep n G most F)) (fun i hi => by
  simp only [impl_powerUpTo_b2, mat_len, idxO_mat hi, Option.bind_some, impl_b3 hn hi, impl_powerUpTo_k5, w64_nat (show i < 9223372036854775807 by omega), show ((i : Int) < (n : Int)) from by omega, decide_true, if_true]
  congr 3
  refine mat_ext fun a b _ _ => ?_
  by_cases ha : a = i
  ·subst ha; simp [powStep]
  ·by_cases h2 : a < i
   ·simp [ha, h2, show a < i + 1 by omega]
   ·simp [ha, h2, show ¬ a < i + 1 by omega]) (by
  simp only [impl_powerUpTo_b2, mat_len, Int.lt_irrefl, decide_false, Bool.false_eq_true, if_false]
  congr 2
  exact mat_ext fun a b ha _ => by simp [ha])
 simpa using hx
theorem impl_b1 (hn : n ≤ 8) (m : Nat) (hm : m ≤ 1048576) : loopO (impl_powerUpTo_b1 (mat n n G) (m : Int) most) (mat n n idM, 0) = some (mat n n (powN n G most m)) := by
 have hx := loop_idx (body := impl_powerUpTo_b1 (mat n n G) (m : Int) most) m (fun t => (mat n n (powN n G most t), (t : Int))) (mat n n (powN n G most m)) (fun t ht => by
  simp only [impl_powerUpTo_b1, mat_len, impl_emptyGraph_eq n (by omega), impl_b2 hn, Option.bind_some, impl_powerUpTo_k4, impl_powerUpTo_k3, w64_nat (show t < 9223372036854775807 by omega), show ((t : Int) < (m : Int)) from by omega, decide_true, if_true]
  rfl) (by simp only [impl_powerUpTo_b1, Int.lt_irrefl, decide_false, Bool.false_eq_true, if_false])
 exact hx
theorem impl_powerUpTo_eq (hn : n ≤ 8) (m : Nat) (hm : m ≤ 1048576) : impl_powerUpTo (mat n n G) (m : Int) most = some (mat n n (powN n G most m)) := by
 have hx := loop_idx (body := impl_powerUpTo_b5 (mat n n fun _ _ => 0)) n (fun i => (mat n n (fun a b => if a < i then idM a b else 0), (i : Int))) (mat n n idM) (fun i hi => by
  simp only [impl_powerUpTo_b5, mat_len, idxO_mat hi, idxO_tab hi, Option.bind_some, w64_nat (show i < 9223372036854775807 by omega), show ((i : Int) < (n : Int)) from by omega, decide_true, if_true, Int.toNat_natCast]
  rw [mat_set2 hi hi]
  congr 3
  refine mat_ext fun a b _ _ => ?_
  by_cases ha : a = i
  ·subst ha
   by_cases hb : b = a
   ·subst hb; simp [idM]
   ·simp [hb, idM, Ne.symm hb]
  ·by_cases h2 : a < i
   ·simp [ha, h2, show a < i + 1 by omega]
   ·simp [ha, h2, show ¬ a < i + 1 by omega]) (by
  simp only [impl_powerUpTo_b5, mat_len, Int.lt_irrefl, decide_false, Bool.false_eq_true, if_false]
  congr 2
  exact mat_ext fun a b ha _ => by simp [ha])
 unfold impl_powerUpTo
 rw [mat_len, impl_emptyGraph_eq n (by omega), Option.bind_some]
 simp only [Nat.not_lt_zero, if_false] at hx
 rw [show (0 : Int) = ((0 : Nat) : Int) from rfl, show (fun (_ _ : Nat) => ((0 : Nat) : Int)) = fun _ _ => (0 : Int) from rfl, hx, Option.bind_some, impl_powerUpTo_k1, impl_b1 hn m hm]
 rfl
end impl
section spec
variable {n : Nat} {G : Nat → Nat → Int}
theorem spec_grCap_eq (v : Int) : spec_grCap v = some (if (1000000001 : Int) < v then 1000000001 else v) := by
 unfold spec_grCap spec_l1Least
 by_cases h : v < 1000000001
 ·simp [h, show ¬ (1000000001 : Int) < v by omega]
 ·by_cases h2 : (1000000001 : Int) < v
  ·simp [h, h2]
  ·have : v = 1000000001 := by omega
   subst this; simp
theorem spec_b4 (hn : n ≤ 8) {i j : Nat} (hi : i < n) (hj : j < n) (F : Nat → Nat → Int) (t : Int) (Y : List (List Int)) (Z : List Int) (R : Nat → Int) :
  loopO (spec_grPower_b4 (mat n n G) (t, mat n n F) (Y, (i : Int)) (Z, (j : Int))) (tab n R, 0) = some (tab n (fun b => if b = j then foldN n (fun acc k => capMul 1000000001 acc (F i k) (G k j)) (R b) else R b)) := by
 have hx := loop_idx (body := spec_grPower_b4 (mat n n G) (t, mat n n F) (Y, (i : Int)) (Z, (j : Int))) n (fun l => (tab n (fun b => if b = j then foldN l (fun acc k => capMul 1000000001 acc (F i k) (G k j)) (R b) else R b), (l : Int))) (tab n (fun b => if b = j then foldN n (fun acc k => capMul 1000000001 acc (F i k) (G k j)) (R b) else R b)) (fun l hl => by
  simp only [spec_grPower_b4, mat_len, idxO_tab hj, idxO_mat hi, idxO_mat hl, idxO_tab hl, Option.bind_some, spec_grCap_eq, w64_nat (show l < 9223372036854775807 by omega), show ((l : Int) < (n : Int)) from by omega, decide_true, if_true, Int.toNat_natCast]
  rw [tab_set hj]
  congr 3
  refine tab_ext fun b _ => ?_
  by_cases hb : b = j
  ·subst hb; simp only [if_true, foldN_succ]; rfl
  ·simp [hb]) (by simp only [spec_grPower_b4, mat_len, Int.lt_irrefl, decide_false, Bool.false_eq_true, if_false])
 simp only [foldN_zero] at hx
 rw [show (fun b => if b = j then R b else R b) = R from by funext b; split <;> rfl] at hx
 simpa using hx
theorem spec_b3 (hn : n ≤ 8) {i : Nat} (hi : i < n) (F : Nat → Nat → Int) (t : Int) (Y : List (List Int)) :
  loopO (spec_grPower_b3 (mat n n G) (t, mat n n F) (Y, (i : Int))) (tab n (fun _ => 0), 0) = some (tab n (powStep n G 1000000001 F i)) := by
 have hx := loop_idx (body := spec_grPower_b3 (mat n n G) (t, mat n n F) (Y, (i : Int))) n (fun j => (tab n (fun b => if b < j then powStep n G 1000000001 F i b else 0), (j : Int))) (tab n (powStep n G 1000000001 F i)) (fun j hj => by
  simp only [spec_grPower_b3, mat_len, spec_b4 hn hi hj, Option.bind_some, spec_grPower_k7, w64_nat (show j < 9223372036854775807 by omega), show ((j : Int) < (n : Int)) from by omega, decide_true, if_true]
  congr 3
  refine tab_ext fun b _ => ?_
  by_cases hb : b = j
  ·subst hb; simp [powStep]
  ·by_cases h2 : b < j
   ·simp [hb, h2, show b < j + 1 by omega]
   ·simp [hb, h2, show ¬ b < j + 1 by omega]) (by
  simp only [spec_grPower_b3, mat_len, Int.lt_irrefl, decide_false, Bool.false_eq_true, if_false]
  congr 2
  exact tab_ext fun b hb => by simp [hb])
 simpa using hx
theorem spec_b2 (hn : n ≤ 8) (F : Nat → Nat → Int) (t : Int) : loopO (spec_grPower_b2 (mat n n G) (t, mat n n F)) ([], 0) = some (mat n n (powStep n G 1000000001 F)) := by
 have hx := loop_idx (body := spec_grPower_b2 (mat n n G) (t, mat n n F)) n (fun i => (tab i (fun a => tab n (powStep n G 1000000001 F a)), (i : Int))) (mat n n (powStep n G 1000000001 F)) (fun i hi => by
  simp only [spec_grPower_b2, mat_len, show ((i : Int) < (n : Int)) from by omega, decide_true, if_true]
  rw [guardO_bind_pos (by omega), Int.toNat_natCast, rep_tab, spec_b3 hn hi, Option.bind_some, spec_grPower_k6, guardO_bind_pos (by simp [tab_len]; omega), spec_grPower_k5]
  simp only [w64_nat (show i < 9223372036854775807 by omega)]
  rw [tab_succ i (fun a => tab n (powStep n G 1000000001 F a))]) (by simp only [spec_grPower_b2, mat_len, Int.lt_irrefl, decide_false, Bool.false_eq_true, if_false]; rfl)
 simpa [tab_zero] using hx
theorem spec_b1 (hn : n ≤ 8) (m : Nat) (hm : m ≤ 1048576) : loopO (spec_grPower_b1 (mat n n G)) ((m : Int), mat n n idM) = some (mat n n (powN n G 1000000001 m)) := by
 have hx := loop_idx (body := spec_grPower_b1 (mat n n G)) m (fun t => (((m - t : Nat) : Int), mat n n (powN n G 1000000001 t))) (mat n n (powN n G 1000000001 m)) (fun t ht => by
  simp only [spec_grPower_b1, show (((m - t : Nat) : Int) > 0) from by omega, decide_true, if_true, spec_b2 hn, Option.bind_some, spec_grPower_k4, spec_grPower_k3]
  rw [w64_id (by omega) (by omega), show ((m - t : Nat) : Int) - 1 = ((m - (t + 1) : Nat) : Int) by omega]
  rfl) (by simp [spec_grPower_b1])
 simpa [powN] using hx
theorem spec_grPower_eq (hn : n ≤ 8) (m : Nat) (hm : m ≤ 1048576) : spec_grPower (mat n n G) (m : Int) = some (mat n n (powN n G 1000000001 m)) := by
 have hx := loop_idx (body := spec_grPower_b5 (mat n n G)) n (fun i => (tab i (fun a => tab n (idM a)), (i : Int))) (mat n n idM) (fun i hi => by
  simp only [spec_grPower_b5, mat_len, show ((i : Int) < (n : Int)) from by omega, decide_true, if_true]
  rw [guardO_bind_pos (by omega), guardO_bind_pos (by simp [tab_len]; omega), Int.toNat_natCast, Int.toNat_natCast, rep_tab]
  have e : tab i (fun a => tab n (idM a)) ++ [tab n fun _ => (0 : Int)] = tab (i + 1) (fun a => if a < i then tab n (idM a) else tab n fun _ => 0) := by
   rw [← tab_succ]
   simp only [Nat.lt_irrefl, if_false]
   congr 1
   exact tab_ext fun a ha => by simp [ha]
  rw [e, idxO_tab (Nat.lt_succ_self i), Option.bind_some]
  simp only [Nat.lt_irrefl, if_false, idxO_tab hi, Option.bind_some, w64_nat (show i < 9223372036854775807 by omega)]
  rw [tab_set (Nat.lt_succ_self i), tab_set hi]
  congr 3
  refine tab_ext fun a ha => ?_
  by_cases h1 : a = i
  ·subst h1
   simp only [if_true]
   exact tab_ext fun b _ => by simp [idM, eq_comm]
  ·simp [h1, show a < i by omega]) (by simp only [spec_grPower_b5, mat_len, Int.lt_irrefl, decide_false, Bool.false_eq_true, if_false]; rfl)
 unfold spec_grPower
 simp only [tab_zero] at hx
 rw [show (0 : Int) = ((0 : Nat) : Int) from rfl, hx, Option.bind_some, spec_grPower_k1, spec_b1 hn m hm]
 rfl
end spec
theorem capMul_range {most acc w a : Int} (hm : 0 ≤ most) (hm2 : most ≤ 1000000000000000000) (h1 : 0 ≤ acc) (h2 : acc ≤ most) (h3 : 0 ≤ w) (h4 : w ≤ most) (h5 : 0 ≤ a) (h6 : a ≤ 9) (hs : most ≤ 100000000000000000 ∨ w * a ≤ 8000000000000000000) : 0 ≤ capMul most acc w a ∧ capMul most acc w a ≤ most := by
 have hwa : 0 ≤ w * a := Int.mul_nonneg h3 h5
 have hwa2 : w * a ≤ w * 9 := Int.mul_le_mul_of_nonneg_left h6 h3
 have : w * a ≤ 8000000000000000000 := by rcases hs with h | h <;> omega
 unfold capMul
 rw [w64_id (n := w * a) (by omega) (by omega), w64_id (n := acc + w * a) (by omega) (by omega)]
 split <;> omega
theorem foldN_inv {β : Type} {g : β → Nat → β} {s : β} {n : Nat} (I : β → Prop) (h0 : I s) (hs : ∀ b i, i < n → I b → I (g b i)) : I (foldN n g s) := by
 induction n with
 | zero => exact h0
 | succ n ih => rw [foldN_succ]; exact hs _ n (by omega) (ih fun b i hi => hs b i (by omega))
theorem powN_range {n : Nat} {G : Nat → Nat → Int} {most : Int} (hG : ∀ i j, i < n → j < n → 0 ≤ G i j ∧ G i j ≤ 9) (hm : 1 ≤ most) (hm2 : most ≤ 100000000000000000) : ∀ (m i j : Nat), i < n → j < n → 0 ≤ powN n G most m i j ∧ powN n G most m i j ≤ most
 | 0, i, j, _, _ => by unfold powN idM; split <;> omega
 | m + 1, i, j, hi, hj => by
  show 0 ≤ foldN n _ 0 ∧ foldN n _ 0 ≤ most
  exact foldN_inv (fun x => 0 ≤ x ∧ x ≤ most) ⟨by omega, by omega⟩ fun b k hk hb => by
   have h1 := powN_range hG hm hm2 m i k hi hk
   have h2 := hG k j hk hj
   exact capMul_range (by omega) (by omega) hb.1 hb.2 h1.1 h1.2 h2.1 h2.2 (.inl hm2)
theorem sum_row (xs : List Int) (v : Int) (hv : 0 ≤ v ∧ v ≤ 1000000000000) (hx : ∀ x ∈ xs, 0 ≤ x ∧ x ≤ 1000000001) (hl : xs.length ≤ 8) :
  loopO (impl_TotalWalks_b2 xs) (v, 0) = some (v + xs.sum) := by
 have hb : ∀ i, i ≤ xs.length → 0 ≤ (xs.take i).sum ∧ (xs.take i).sum ≤ 1000000001 * i := by
  intro i
  induction i with
  | zero => simp
  | succ i ih =>
   intro hi
   have h1 := ih (by omega)
   have h2 := hx xs[i] (List.getElem_mem (by omega))
   rw [List.take_add_one, List.sum_append, List.getElem?_eq_getElem (by omega)]
   simp only [Option.toList_some, List.sum_cons, List.sum_nil]
   omega
 have h := loop_idx (body := impl_TotalWalks_b2 xs) xs.length (fun i => (v + (xs.take i).sum, (i : Int))) (v + xs.sum) (fun i hi => by
  have h1 := hb i (by omega)
  have h2 := hb (i + 1) (by omega)
  have h3 : (xs.take (i + 1)).sum = (xs.take i).sum + xs[i] := by
   rw [List.take_add_one, List.sum_append, List.getElem?_eq_getElem hi]; simp
  simp only [impl_TotalWalks_b2, idxO_lt hi, Option.bind_some, w64_nat (show i < 9223372036854775807 by omega), show ((i : Int) < (xs.length : Int)) from by omega, decide_true, if_true]
  rw [w64_id (by omega) (by omega), h3, Int.add_assoc]) (by simp [impl_TotalWalks_b2])
 simpa using h
def capAt (x : Int) : Int := if 1000000001 < x then 1000000001 else x
theorem cap_row (xs : List Int) (v : Int) (hv : 0 ≤ v) (hx : ∀ x ∈ xs, 0 ≤ x ∧ x ≤ 1000000001) (hl : xs.length ≤ 8) :
  loopO (spec_gwTotal_b2 xs) (capAt v, 0) = some (capAt (v + xs.sum)) := by
 have hb : ∀ i, i ≤ xs.length → 0 ≤ (xs.take i).sum := by
  intro i
  induction i with
  | zero => simp
  | succ i ih =>
   intro hi
   have h1 := ih (by omega)
   have h2 := hx xs[i] (List.getElem_mem (by omega))
   rw [List.take_add_one, List.sum_append, List.getElem?_eq_getElem (by omega)]
   simp only [Option.toList_some, List.sum_cons, List.sum_nil]
   omega
 have h := loop_idx (body := spec_gwTotal_b2 xs) xs.length (fun i => (capAt (v + (xs.take i).sum), (i : Int))) (capAt (v + xs.sum)) (fun i hi => by
  have h1 := hb i (by omega)
  have h2 := hx xs[i] (List.getElem_mem hi)
  have h3 : (xs.take (i + 1)).sum = (xs.take i).sum + xs[i] := by
   rw [List.take_add_one, List.sum_append, List.getElem?_eq_getElem hi]; simp
  simp only [spec_gwTotal_b2, idxO_lt hi, Option.bind_some, spec_grCap_eq, w64_nat (show i < 9223372036854775807 by omega), show ((i : Int) < (xs.length : Int)) from by omega, decide_true, if_true]
  rw [h3]
  have h4 : 0 ≤ capAt (v + (xs.take i).sum) ∧ capAt (v + (xs.take i).sum) ≤ 1000000001 := by unfold capAt; split <;> omega
  rw [w64_id (by omega) (by omega)]
  congr 3
  unfold capAt
  (repeat' split) <;> omega) (by simp [spec_gwTotal_b2])
 simpa using h
def total (g : List (List Int)) : Int := (g.map List.sum).sum
theorem sum_nonneg {xs : List Int} (hx : ∀ x ∈ xs, 0 ≤ x ∧ x ≤ 1000000001) : 0 ≤ xs.sum ∧ xs.sum ≤ 1000000001 * xs.length := by
 induction xs with
 | nil => simp
 | cons x xs ih =>
  have h1 := hx x (by simp)
  have h2 := ih fun y hy => hx y (by simp [hy])
  simp only [List.sum_cons, List.length_cons]; omega
theorem total_take {g : List (List Int)} (hx : ∀ row ∈ g, row.length ≤ 8 ∧ ∀ x ∈ row, 0 ≤ x ∧ x ≤ 1000000001) : ∀ i, i ≤ g.length → 0 ≤ total (g.take i) ∧ total (g.take i) ≤ 10000000000 * i := by
 intro i
 induction i with
 | zero => simp [total]
 | succ i ih =>
  intro hi
  have h1 := ih (by omega)
  have h2 := hx g[i] (List.getElem_mem (by omega))
  have h3 := sum_nonneg h2.2
  unfold total at h1 ⊢
  rw [List.take_add_one, List.map_append, List.sum_append, List.getElem?_eq_getElem (by omega)]
  simp only [Option.toList_some, List.map_cons, List.map_nil, List.sum_cons, List.sum_nil]
  omega
theorem total_succ {g : List (List Int)} {i : Nat} (hi : i < g.length) : total (g.take (i + 1)) = total (g.take i) + g[i].sum := by
 unfold total
 rw [List.take_add_one, List.map_append, List.sum_append, List.getElem?_eq_getElem hi]; simp
theorem impl_total (g : List (List Int)) (hl : g.length ≤ 8) (hx : ∀ row ∈ g, row.length ≤ 8 ∧ ∀ x ∈ row, 0 ≤ x ∧ x ≤ 1000000001) : loopO (impl_TotalWalks_b1 g) (0, 0) = some (total g) := by
 have h := loop_idx (body := impl_TotalWalks_b1 g) g.length (fun i => (total (g.take i), (i : Int))) (total g) (fun i hi => by
  have h1 := total_take hx i (by omega)
  have h2 := hx g[i] (List.getElem_mem hi)
  simp only [impl_TotalWalks_b1, idxO_lt hi, Option.bind_some, sum_row g[i] _ ⟨h1.1, by omega⟩ h2.2 h2.1, impl_TotalWalks_k2, w64_nat (show i < 9223372036854775807 by omega), show ((i : Int) < (g.length : Int)) from by omega, decide_true, if_true]
  rw [total_succ hi]) (by simp [impl_TotalWalks_b1])
 exact h
theorem spec_total (g : List (List Int)) (hl : g.length ≤ 8) (hx : ∀ row ∈ g, row.length ≤ 8 ∧ ∀ x ∈ row, 0 ≤ x ∧ x ≤ 1000000001) : loopO (spec_gwTotal_b1 g) (0, 0) = some (capAt (total g)) := by
 have h := loop_idx (body := spec_gwTotal_b1 g) g.length (fun i => (capAt (total (g.take i)), (i : Int))) (capAt (total g)) (fun i hi => by
  have h1 := total_take hx i (by omega)
  have h2 := hx g[i] (List.getElem_mem hi)
  simp only [spec_gwTotal_b1, idxO_lt hi, Option.bind_some, cap_row g[i] _ h1.1 h2.2 h2.1, spec_gwTotal_k2, w64_nat (show i < 9223372036854775807 by omega), show ((i : Int) < (g.length : Int)) from by omega, decide_true, if_true]
  rw [total_succ hi]) (by simp [spec_gwTotal_b1])
 exact h
theorem mat_rows {n : Nat} {F : Nat → Nat → Int} (hn : n ≤ 8) (hF : ∀ i j, i < n → j < n → 0 ≤ F i j ∧ F i j ≤ 1000000001) : ∀ row ∈ mat n n F, row.length ≤ 8 ∧ ∀ x ∈ row, 0 ≤ x ∧ x ≤ 1000000001 := by
 intro row hr
 obtain ⟨i, hi, rfl⟩ := tab_mem.1 hr
 refine ⟨by rw [tab_len]; exact hn, fun x hx => ?_⟩
 obtain ⟨j, hj, rfl⟩ := tab_mem.1 hx
 exact hF i j hi hj
def totalWalks (g : List (List Int)) (m : Int) : Int × Bool :=
 if isGraph g && inB 0 12 m then
  let t := total (mat g.length g.length (powN g.length (fun i j => (g.getD i []).getD j 0) 1000000001 m.toNat))
  if t > 1000000000 then (0, false) else (t, true)
 else (0, false)
theorem mat_self {n : Nat} {G : Nat → Nat → Int} (i j : Nat) (hi : i < n) (hj : j < n) : ((mat n n G).getD i []).getD j 0 = G i j := by
 simp [List.getD, mat, tab_get hi, tab_get hj]
theorem powN_congr {n : Nat} {G G' : Nat → Nat → Int} {most : Int} (h : ∀ i j, i < n → j < n → G i j = G' i j) : ∀ m i j, j < n → powN n G most m i j = powN n G' most m i j
 | 0, _, _, _ => rfl
 | m + 1, i, j, hj => by
  show foldN n _ 0 = foldN n _ 0
  exact foldN_ext fun b k hk => by rw [powN_congr h m i k hk, h k j hk hj]
theorem impl_TotalWalks_eq (g : List (List Int)) (m : Int) (hs : sized g) : impl_TotalWalks g m = some (totalWalks g m) := by
 unfold impl_TotalWalks totalWalks impl_isWalk
 rw [impl_isGraph_eq g hs]
 simp only [Option.bind_some, impl_within_eq]
 cases hg : isGraph g
 ·rfl
 ·cases hm : inB 0 12 m
  ·rfl
  ·obtain ⟨n, G, h1, h2, rfl, hG⟩ := isGraph_mat hg
   have hm' := inB_iff.1 hm
   obtain ⟨k, rfl⟩ := Int.eq_ofNat_of_zero_le hm'.1
   have e : mat n n (powN n (fun i j => ((mat n n G).getD i []).getD j 0) 1000000001 k) = mat n n (powN n G 1000000001 k) := mat_ext fun i j _ hj => powN_congr (fun i j hi hj => mat_self i j hi hj) k i j hj
   simp only [if_true, Bool.not_true, Bool.false_eq_true, if_false, Bool.and_self, impl_power, impl_powerUpTo_eq h2 k (by omega), Option.bind_some, mat_len, Int.toNat_natCast, e]
   rw [impl_total _ (by rw [mat_len]; exact h2) (mat_rows h2 fun i j hi hj => powN_range hG (by decide) (by decide) k i j hi hj)]
   simp only [Option.bind_some, impl_TotalWalks_k1]
   by_cases ht : total (mat n n (powN n G 1000000001 k)) > 1000000000 <;> simp [ht]
theorem spec_gwTotal_eq {n : Nat} {G : Nat → Nat → Int} (h2 : n ≤ 8) (hG : ∀ i j, i < n → j < n → 0 ≤ G i j ∧ G i j ≤ 9) (k : Nat) (hk : k ≤ 1048576) : spec_gwTotal (mat n n G) (k : Int) = some (capAt (total (mat n n (powN n G 1000000001 k)))) := by
 unfold spec_gwTotal
 rw [spec_grPower_eq h2 k hk, Option.bind_some, spec_total _ (by rw [mat_len]; exact h2) (mat_rows h2 fun i j hi hj => powN_range hG (by decide) (by decide) k i j hi hj)]
 rfl
theorem spec_TotalWalks_eq (g : List (List Int)) (m : Int) (hs : sized g) : spec_TotalWalks g m = some (totalWalks g m) := by
 unfold spec_TotalWalks totalWalks
 rw [spec_grGood_eq g hs]
 simp only [Option.bind_some, spec_grSteps, spec_l1In_eq]
 cases hg : isGraph g
 ·rfl
 ·cases hm : inB 0 12 m
  ·rfl
  ·obtain ⟨n, G, h1, h2, rfl, hG⟩ := isGraph_mat hg
   have hm' := inB_iff.1 hm
   obtain ⟨k, rfl⟩ := Int.eq_ofNat_of_zero_le hm'.1
   have e : mat n n (powN n (fun i j => ((mat n n G).getD i []).getD j 0) 1000000001 k) = mat n n (powN n G 1000000001 k) := mat_ext fun i j _ hj => powN_congr (fun i j hi hj => mat_self i j hi hj) k i j hj
   simp only [if_true, Bool.not_true, Bool.false_eq_true, if_false, Bool.and_self, Option.bind_some, mat_len, Int.toNat_natCast, e, spec_gwTotal_eq h2 hG k (by omega)]
   by_cases ht : total (mat n n (powN n G 1000000001 k)) > 1000000000
   ·have : capAt (total (mat n n (powN n G 1000000001 k))) > 1000000000 := by unfold capAt; split <;> omega
    simp [ht, this]
   ·have : capAt (total (mat n n (powN n G 1000000001 k))) = total (mat n n (powN n G 1000000001 k)) := by unfold capAt; split <;> omega
    simp [ht, this]
end Go.PV

/-
 Plain laws: sums, powers of tables of numbers, traces.
 Conditions: none.
-/
set_option linter.all false
namespace Go.PV
def sm (n : Nat) (f : Nat → Int) : Int := foldN n (fun s i => s + f i) 0
theorem sm_zero (f : Nat → Int) : sm 0 f = 0 := rfl
theorem sm_succ (n : Nat) (f : Nat → Int) : sm (n + 1) f = sm n f + f n := foldN_succ ..
theorem sm_ext {n : Nat} {f g : Nat → Int} (h : ∀ i, i < n → f i = g i) : sm n f = sm n g := foldN_ext fun b i hi => by rw [h i hi]
theorem sm_add (n : Nat) (f g : Nat → Int) : sm n (fun i => f i + g i) = sm n f + sm n g := by
 induction n with
 | zero => rfl
 | succ n ih => rw [sm_succ, sm_succ, sm_succ, ih]; omega
theorem sm_mul (n : Nat) (c : Int) (f : Nat → Int) : sm n (fun i => c * f i) = c * sm n f := by
 induction n with
 | zero => simp [sm_zero]
 | succ n ih => rw [sm_succ, sm_succ, ih, Int.mul_add]
theorem sm_mul' (n : Nat) (c : Int) (f : Nat → Int) : sm n (fun i => f i * c) = sm n f * c := by
 rw [Int.mul_comm, ← sm_mul]; exact sm_ext fun i _ => Int.mul_comm ..
theorem sm_zeros (n : Nat) : sm n (fun _ => 0) = 0 := by
 induction n with
 | zero => rfl
 | succ n ih => rw [sm_succ, ih]; rfl
theorem sm_swap (n m : Nat) (f : Nat → Nat → Int) : sm n (fun i => sm m fun j => f i j) = sm m fun j => sm n fun i => f i j := by
 induction n with
 | zero => simp only [sm_zero]; exact (sm_zeros m).symm
 | succ n ih => rw [sm_succ, ih, ← sm_add]; exact sm_ext fun j _ => (sm_succ ..).symm
theorem sm_delta {n a : Nat} (h : a < n) (f : Nat → Int) : sm n (fun i => if i = a then f i else 0) = f a := by
 induction n with
 | zero => omega
 | succ n ih =>
  rw [sm_succ]
  by_cases hn : a = n
  ·subst hn
   rw [if_pos rfl, sm_ext (g := fun _ => 0) fun i hi => if_neg (by omega), sm_zeros]
   omega
  ·rw [if_neg (Ne.symm hn), ih (by omega)]; omega
theorem sm_le {n : Nat} {f g : Nat → Int} (h : ∀ i, i < n → f i ≤ g i) : sm n f ≤ sm n g := by
 induction n with
 | zero => exact Int.le_refl _
 | succ n ih => rw [sm_succ, sm_succ]; have := ih fun i hi => h i (by omega); have := h n (by omega); omega
theorem sm_nonneg {n : Nat} {f : Nat → Int} (h : ∀ i, i < n → 0 ≤ f i) : 0 ≤ sm n f := by
 have := sm_le (f := fun _ => 0) (g := f) h
 rw [sm_zeros] at this; exact this
theorem sm_one {n a : Nat} (ha : a < n) {f : Nat → Int} (h : ∀ i, i < n → 0 ≤ f i) : f a ≤ sm n f := by
 rw [← sm_delta ha f]
 refine sm_le fun i hi => ?_
 split
 ·omega
 ·exact h i hi
theorem sm_dvd {n : Nat} {d : Int} {f : Nat → Int} (h : ∀ i, i < n → d ∣ f i) : d ∣ sm n f := by
 induction n with
 | zero => exact ⟨0, by simp [sm_zero]⟩
 | succ n ih => rw [sm_succ]; exact Int.dvd_add (ih fun i hi => h i (by omega)) (h n (by omega))
theorem sm_sub (n : Nat) (f g : Nat → Int) : sm n (fun i => f i - g i) = sm n f - sm n g := by
 induction n with
 | zero => rfl
 | succ n ih => rw [sm_succ, sm_succ, sm_succ, ih]; omega
def pw (n : Nat) (A : Nat → Nat → Int) : Nat → Nat → Nat → Int
 | 0 => fun i j => if i = j then 1 else 0
 | d + 1 => fun i j => sm n fun k => pw n A d i k * A k j
section
variable {n : Nat} {A : Nat → Nat → Int}
theorem pw_one {i j : Nat} (hi : i < n) : pw n A 1 i j = A i j := by
 simp only [pw]
 rw [sm_ext (g := fun k => if k = i then A k j else 0) fun k _ => by
  by_cases h : i = k
  ·subst h; simp
  ·simp [h, Ne.symm h], sm_delta hi]
theorem pw_add (a : Nat) {i : Nat} (hi : i < n) : ∀ (b j : Nat), j < n → pw n A (a + b) i j = sm n fun k => pw n A a i k * pw n A b k j
 | 0, j, hj => by
  simp only [Nat.add_zero, pw]
  rw [sm_ext (g := fun k => if k = j then pw n A a i k else 0) fun k _ => by by_cases h : k = j <;> simp [h], sm_delta hj]
 | b + 1, j, hj => by
  show sm n (fun l => pw n A (a + b) i l * A l j) = _
  rw [sm_ext (g := fun l => sm n fun k => pw n A a i k * (pw n A b k l * A l j)) fun l hl => by
   rw [pw_add a hi b l hl, ← sm_mul']; exact sm_ext fun k _ => Int.mul_assoc .., sm_swap]
  refine sm_ext fun k _ => ?_
  rw [sm_mul]
  rfl
theorem pw_nonneg (hA : ∀ i j, i < n → j < n → 0 ≤ A i j) : ∀ (d : Nat) {i j : Nat}, i < n → j < n → 0 ≤ pw n A d i j
 | 0, i, j, _, _ => by simp only [pw]; split <;> decide
 | d + 1, i, j, hi, hj => sm_nonneg fun k hk => Int.mul_nonneg (pw_nonneg hA d hi hk) (hA k j hk hj)
theorem pw_mul (d : Nat) {i : Nat} (hi : i < n) : ∀ (k j : Nat), j < n → pw n A (d * k) i j = pw n (pw n A d) k i j
 | 0, j, _ => rfl
 | k + 1, j, hj => by
  rw [Nat.mul_succ, pw_add (d * k) hi d j hj]
  refine sm_ext fun l hl => ?_
  rw [pw_mul d hi k l hl]
def tr (n : Nat) (A : Nat → Nat → Int) : Int := sm n fun i => A i i
def cw (n : Nat) (A : Nat → Nat → Int) (d : Nat) : Int := tr n (pw n A d)
theorem cw_mul (d k : Nat) : cw n A (d * k) = cw n (pw n A d) k := sm_ext fun i hi => pw_mul d hi k i hi
theorem cw_one : cw n A 1 = tr n A := sm_ext fun i hi => pw_one hi
theorem cw_le (hA : ∀ i j, i < n → j < n → 0 ≤ A i j) (k : Nat) (hk : 1 ≤ k) : tr n A ≤ cw n A k := by
 refine sm_le fun i hi => ?_
 have key : ∀ k, 1 ≤ k → A i i ≤ pw n A k i i := by
  intro k
  induction k with
  | zero => intro h; omega
  | succ k ih =>
   intro _
   by_cases h0 : k = 0
   ·subst h0; rw [Nat.zero_add, pw_one hi]; exact Int.le_refl _
   ·have h1 := ih (by omega)
    have h2 : pw n A k i i * A i i ≤ pw n A (k + 1) i i := sm_one hi (f := fun l => pw n A k i l * A l i) fun l hl => Int.mul_nonneg (pw_nonneg hA k hi hl) (hA l i hl hi)
    have h3 := hA i i hi hi
    by_cases h4 : A i i = 0
    ·rw [h4]; exact pw_nonneg hA _ hi hi
    ·have h5 := Int.mul_le_mul h1 (show (1 : Int) ≤ A i i by omega) (by omega) (by omega)
     omega
 exact key k hk
theorem cw_dvd (hA : ∀ i j, i < n → j < n → 0 ≤ A i j) {d m : Nat} (h : d ∣ m) (hm : 1 ≤ m) : cw n A d ≤ cw n A m := by
 obtain ⟨k, rfl⟩ := h
 rw [cw_mul]
 refine cw_le (fun i j hi hj => pw_nonneg hA d hi hj) k ?_
 cases k with
 | zero => omega
 | succ k => omega
end
end Go.PV

/-
 Plain laws: what divides numbers of closed walks.
 Conditions: none.
-/
set_option linter.all false
namespace Go.PV
section
variable {n : Nat} (hn : n ≤ 8)
def S2 (n : Nat) (f : Nat → Nat → Int) : Int := sm n fun i => sm n fun j => f i j
def S3 (n : Nat) (f : Nat → Nat → Nat → Int) : Int := sm n fun i => S2 n fun j k => f i j k
def S4 (n : Nat) (f : Nat → Nat → Nat → Nat → Int) : Int := sm n fun i => S3 n fun j k l => f i j k l
def S5 (n : Nat) (f : Nat → Nat → Nat → Nat → Nat → Int) : Int := sm n fun i => S4 n fun j k l m => f i j k l m
theorem S2_ext {f g : Nat → Nat → Int} (h : ∀ i j, i < n → j < n → f i j = g i j) : S2 n f = S2 n g := sm_ext fun i hi => sm_ext fun j hj => h i j hi hj
theorem S3_ext {f g : Nat → Nat → Nat → Int} (h : ∀ i j k, i < n → j < n → k < n → f i j k = g i j k) : S3 n f = S3 n g := sm_ext fun i hi => S2_ext fun j k hj hk => h i j k hi hj hk
theorem S4_ext {f g : Nat → Nat → Nat → Nat → Int} (h : ∀ i j k l, i < n → j < n → k < n → l < n → f i j k l = g i j k l) : S4 n f = S4 n g := sm_ext fun i hi => S3_ext fun j k l hj hk hl => h i j k l hi hj hk hl
theorem S5_ext {f g : Nat → Nat → Nat → Nat → Nat → Int} (h : ∀ i j k l m, i < n → j < n → k < n → l < n → m < n → f i j k l m = g i j k l m) : S5 n f = S5 n g := sm_ext fun i hi => S4_ext fun j k l m hj hk hl hm => h i j k l m hi hj hk hl hm
theorem S2_add (f g : Nat → Nat → Int) : S2 n (fun i j => f i j + g i j) = S2 n f + S2 n g := by
 unfold S2
 rw [← sm_add]; exact sm_ext fun i _ => sm_add ..
theorem S3_add (f g : Nat → Nat → Nat → Int) : S3 n (fun i j k => f i j k + g i j k) = S3 n f + S3 n g := by
 unfold S3
 rw [← sm_add]; exact sm_ext fun i _ => S2_add ..
theorem S4_add (f g : Nat → Nat → Nat → Nat → Int) : S4 n (fun i j k l => f i j k l + g i j k l) = S4 n f + S4 n g := by
 unfold S4
 rw [← sm_add]; exact sm_ext fun i _ => S3_add ..
theorem S5_add (f g : Nat → Nat → Nat → Nat → Nat → Int) : S5 n (fun i j k l m => f i j k l m + g i j k l m) = S5 n f + S5 n g := by
 unfold S5
 rw [← sm_add]; exact sm_ext fun i _ => S4_add ..
theorem S2_rot (f : Nat → Nat → Int) : S2 n (fun i j => f j i) = S2 n f := sm_swap n n fun i j => f j i
theorem S3_rot (f : Nat → Nat → Nat → Int) : S3 n (fun i j k => f j k i) = S3 n f := by
 show sm n (fun i => sm n fun j => sm n fun k => f j k i) = sm n fun i => sm n fun j => sm n fun k => f i j k
 rw [sm_swap]
 exact sm_ext fun j _ => sm_swap n n fun i k => f j k i
theorem S4_rot (f : Nat → Nat → Nat → Nat → Int) : S4 n (fun i j k l => f j k l i) = S4 n f := by
 show sm n (fun i => sm n fun j => sm n fun k => sm n fun l => f j k l i) = sm n fun i => S3 n fun j k l => f i j k l
 rw [sm_swap]
 exact sm_ext fun j _ => S3_rot fun k l i => f j k l i
theorem S5_rot (f : Nat → Nat → Nat → Nat → Nat → Int) : S5 n (fun i j k l m => f j k l m i) = S5 n f := by
 show sm n (fun i => sm n fun j => sm n fun k => sm n fun l => sm n fun m => f j k l m i) = sm n fun i => S4 n fun j k l m => f i j k l m
 rw [sm_swap]
 exact sm_ext fun j _ => S4_rot fun k l m i => f j k l m i
def l2 (i j : Nat) : Int := if i < j then 1 else 0
def l3 (i j k : Nat) : Int := if 64 * i + 8 * j + k < 64 * j + 8 * k + i ∧ 64 * i + 8 * j + k < 64 * k + 8 * i + j then 1 else 0
def l4 (i j k l : Nat) : Int := if 512 * i + 64 * j + 8 * k + l < 512 * j + 64 * k + 8 * l + i ∧ 512 * i + 64 * j + 8 * k + l < 512 * k + 64 * l + 8 * i + j ∧ 512 * i + 64 * j + 8 * k + l < 512 * l + 64 * i + 8 * j + k then 1 else 0
def l5 (i j k l m : Nat) : Int := if 4096 * i + 512 * j + 64 * k + 8 * l + m < 4096 * j + 512 * k + 64 * l + 8 * m + i ∧ 4096 * i + 512 * j + 64 * k + 8 * l + m < 4096 * k + 512 * l + 64 * m + 8 * i + j ∧
 4096 * i + 512 * j + 64 * k + 8 * l + m < 4096 * l + 512 * m + 64 * i + 8 * j + k ∧ 4096 * i + 512 * j + 64 * k + 8 * l + m < 4096 * m + 512 * i + 64 * j + 8 * k + l then 1 else 0
theorem part2 (i j : Nat) : (if i = j then (1 : Int) else 0) + l2 i j + l2 j i = 1 := by
 unfold l2
 repeat' split
 all_goals omega
theorem part3 {i j k : Nat} (hi : i < 8) (hj : j < 8) (hk : k < 8) : (if i = j ∧ j = k then (1 : Int) else 0) + l3 i j k + l3 j k i + l3 k i j = 1 := by
 have : ∀ i, i < 8 → ∀ j, j < 8 → ∀ k, k < 8 → (if i = j ∧ j = k then (1 : Int) else 0) + l3 i j k + l3 j k i + l3 k i j = 1 := by decide +kernel
 exact this i hi j hj k hk
theorem part4 {i j k l : Nat} (hi : i < 8) (hj : j < 8) (hk : k < 8) (hl : l < 8) : (if i = k ∧ j = l then (1 : Int) else 0) + l4 i j k l + l4 j k l i + l4 k l i j + l4 l i j k = 1 := by
 have : ∀ i, i < 8 → ∀ j, j < 8 → ∀ k, k < 8 → ∀ l, l < 8 → (if i = k ∧ j = l then (1 : Int) else 0) + l4 i j k l + l4 j k l i + l4 k l i j + l4 l i j k = 1 := by decide +kernel
 exact this i hi j hj k hk l hl
theorem part5 {i j k l m : Nat} (hi : i < 8) (hj : j < 8) (hk : k < 8) (hl : l < 8) (hm : m < 8) : (if i = j ∧ j = k ∧ k = l ∧ l = m then (1 : Int) else 0) + l5 i j k l m + l5 j k l m i + l5 k l m i j + l5 l m i j k + l5 m i j k l = 1 := by
 have : ∀ i, i < 8 → ∀ j, j < 8 → ∀ k, k < 8 → ∀ l, l < 8 → ∀ m, m < 8 → (if i = j ∧ j = k ∧ k = l ∧ l = m then (1 : Int) else 0) + l5 i j k l m + l5 j k l m i + l5 k l m i j + l5 l m i j k + l5 m i j k l = 1 := by decide +kernel
 exact this i hi j hj k hk l hl m hm
include hn in
theorem sum2 (T : Nat → Nat → Int) (hT : ∀ i j, T j i = T i j) : ∃ X, S2 n T = sm n (fun i => T i i) + 2 * X := by
 refine ⟨S2 n fun i j => l2 i j * T i j, ?_⟩
 have e : S2 n T = S2 n (fun i j => (if i = j then 1 else 0) * T i j + l2 i j * T i j + l2 j i * T j i) := S2_ext fun i j _ _ => by
  rw [hT i j, ← Int.add_mul, ← Int.add_mul, part2, Int.one_mul]
 rw [e, S2_add, S2_add, S2_rot fun i j => l2 i j * T i j]
 have d : S2 n (fun i j => (if i = j then 1 else 0) * T i j) = sm n fun i => T i i := sm_ext fun i hi => by
  rw [sm_ext (g := fun j => if j = i then T i j else 0) fun j _ => by by_cases h : i = j <;> simp [h, eq_comm], sm_delta hi]
 rw [d]; omega
include hn in
theorem sum3 (T : Nat → Nat → Nat → Int) (hT : ∀ i j k, T j k i = T i j k) : ∃ X, S3 n T = sm n (fun i => T i i i) + 3 * X := by
 refine ⟨S3 n fun i j k => l3 i j k * T i j k, ?_⟩
 have e : S3 n T = S3 n (fun i j k => (if i = j ∧ j = k then 1 else 0) * T i j k + l3 i j k * T i j k + l3 j k i * T j k i + l3 k i j * T k i j) := S3_ext fun i j k hi hj hk => by
  rw [show T k i j = T i j k from by rw [← hT k i j], hT i j k, ← Int.add_mul, ← Int.add_mul, ← Int.add_mul, part3 (by omega) (by omega) (by omega), Int.one_mul]
 have r1 := S3_rot (n := n) fun i j k => l3 i j k * T i j k
 have r2 := S3_rot (n := n) fun i j k => l3 j k i * T j k i
 rw [e, S3_add, S3_add, S3_add]
 have d : S3 n (fun i j k => (if i = j ∧ j = k then 1 else 0) * T i j k) = sm n fun i => T i i i := sm_ext fun i hi => by
  show sm n (fun j => sm n fun k => (if i = j ∧ j = k then 1 else 0) * T i j k) = _
  rw [sm_ext (g := fun j => if j = i then T i i i else 0) fun j hj => by
   by_cases h : j = i
   ·subst h
    rw [if_pos rfl, sm_ext (g := fun k => if k = j then T j j k else 0) fun k _ => by by_cases h : j = k <;> simp [h, eq_comm], sm_delta hj]
   ·rw [if_neg h, sm_ext (g := fun _ => 0) fun k _ => by simp [Ne.symm h], sm_zeros], sm_delta hi]
 rw [d]
 omega
include hn in
theorem sum4 (T : Nat → Nat → Nat → Nat → Int) (hT : ∀ i j k l, T j k l i = T i j k l) : ∃ X, S4 n T = S2 n (fun i j => T i j i j) + 4 * X := by
 refine ⟨S4 n fun i j k l => l4 i j k l * T i j k l, ?_⟩
 have e : S4 n T = S4 n (fun i j k l => (if i = k ∧ j = l then 1 else 0) * T i j k l + l4 i j k l * T i j k l + l4 j k l i * T j k l i + l4 k l i j * T k l i j + l4 l i j k * T l i j k) := S4_ext fun i j k l hi hj hk hl => by
  rw [show T l i j k = T i j k l from by rw [← hT l i j k], show T k l i j = T j k l i from hT j k l i, hT i j k l, ← Int.add_mul, ← Int.add_mul, ← Int.add_mul, ← Int.add_mul, part4 (by omega) (by omega) (by omega) (by omega), Int.one_mul]
 have r1 := S4_rot (n := n) fun i j k l => l4 i j k l * T i j k l
 have r2 := S4_rot (n := n) fun i j k l => l4 j k l i * T j k l i
 have r3 := S4_rot (n := n) fun i j k l => l4 k l i j * T k l i j
 rw [e, S4_add, S4_add, S4_add, S4_add]
 have d : S4 n (fun i j k l => (if i = k ∧ j = l then 1 else 0) * T i j k l) = S2 n fun i j => T i j i j := sm_ext fun i hi => sm_ext fun j hj => by
  show sm n (fun k => sm n fun l => (if i = k ∧ j = l then 1 else 0) * T i j k l) = _
  rw [sm_ext (g := fun k => if k = i then T i j i j else 0) fun k hk => by
   by_cases h : k = i
   ·subst h
    rw [if_pos rfl, sm_ext (g := fun l => if l = j then T k j k l else 0) fun l _ => by by_cases h : j = l <;> simp [h, eq_comm], sm_delta hj]
   ·rw [if_neg h, sm_ext (g := fun _ => 0) fun l _ => by simp [Ne.symm h], sm_zeros], sm_delta hi]
 rw [d]
 omega
include hn in
theorem sum5 (T : Nat → Nat → Nat → Nat → Nat → Int) (hT : ∀ i j k l m, T j k l m i = T i j k l m) : ∃ X, S5 n T = sm n (fun i => T i i i i i) + 5 * X := by
 refine ⟨S5 n fun i j k l m => l5 i j k l m * T i j k l m, ?_⟩
 have e : S5 n T = S5 n (fun i j k l m => (if i = j ∧ j = k ∧ k = l ∧ l = m then 1 else 0) * T i j k l m + l5 i j k l m * T i j k l m + l5 j k l m i * T j k l m i + l5 k l m i j * T k l m i j + l5 l m i j k * T l m i j k + l5 m i j k l * T m i j k l) := S5_ext fun i j k l m hi hj hk hl hm => by
  rw [show T m i j k l = T i j k l m from by rw [← hT m i j k l], show T l m i j k = T j k l m i from by rw [hT k l m i j, hT j k l m i], show T k l m i j = T j k l m i from hT j k l m i, hT i j k l m, ← Int.add_mul, ← Int.add_mul, ← Int.add_mul, ← Int.add_mul, ← Int.add_mul, part5 (by omega) (by omega) (by omega) (by omega) (by omega), Int.one_mul]
 have r1 := S5_rot (n := n) fun i j k l m => l5 i j k l m * T i j k l m
 have r2 := S5_rot (n := n) fun i j k l m => l5 j k l m i * T j k l m i
 have r3 := S5_rot (n := n) fun i j k l m => l5 k l m i j * T k l m i j
 have r4 := S5_rot (n := n) fun i j k l m => l5 l m i j k * T l m i j k
 rw [e, S5_add, S5_add, S5_add, S5_add, S5_add]
 have d : S5 n (fun i j k l m => (if i = j ∧ j = k ∧ k = l ∧ l = m then 1 else 0) * T i j k l m) = sm n fun i => T i i i i i := sm_ext fun i hi => by
  show sm n (fun j => S3 n fun k l m => (if i = j ∧ j = k ∧ k = l ∧ l = m then 1 else 0) * T i j k l m) = _
  rw [sm_ext (g := fun j => if j = i then T i i i i i else 0) fun j hj => by
   by_cases h : j = i
   ·subst h
    rw [if_pos rfl]
    show sm n (fun k => sm n fun l => sm n fun m => (if j = j ∧ j = k ∧ k = l ∧ l = m then 1 else 0) * T j j k l m) = _
    rw [sm_ext (g := fun k => if k = j then T j j j j j else 0) fun k hk => by
     by_cases h : k = j
     ·subst h
      rw [if_pos rfl, sm_ext (g := fun l => if l = k then T k k k k k else 0) fun l hl => by
       by_cases h : l = k
       ·subst h
        rw [if_pos rfl, sm_ext (g := fun m => if m = l then T l l l l m else 0) fun m _ => by by_cases h : l = m <;> simp [h, eq_comm], sm_delta hl]
       ·rw [if_neg h, sm_ext (g := fun _ => 0) fun m _ => by simp [Ne.symm h], sm_zeros], sm_delta hk]
     ·rw [if_neg h, sm_ext (g := fun _ => 0) fun l _ => by rw [sm_ext (g := fun _ => 0) fun m _ => by simp [Ne.symm h], sm_zeros], sm_zeros], sm_delta hj]
   ·rw [if_neg h]
    show sm n (fun k => sm n fun l => sm n fun m => (if i = j ∧ j = k ∧ k = l ∧ l = m then 1 else 0) * T i j k l m) = 0
    rw [sm_ext (g := fun _ => 0) fun k _ => by rw [sm_ext (g := fun _ => 0) fun l _ => by rw [sm_ext (g := fun _ => 0) fun m _ => by simp [Ne.symm h], sm_zeros], sm_zeros], sm_zeros], sm_delta hi]
 rw [d]
 omega
end
end Go.PV

/-
 Plain laws: what divides numbers of closed walks, in short.
 Conditions: none.
-/
set_option linter.all false
namespace Go.PV
section
variable {n : Nat}
theorem cw2 (B : Nat → Nat → Int) : cw n B 2 = S2 n fun i j => B i j * B j i := sm_ext fun i hi => by
 show sm n (fun k => pw n B 1 i k * B k i) = _
 exact sm_ext fun k _ => by rw [pw_one hi]
theorem pw_two (B : Nat → Nat → Int) {i : Nat} (hi : i < n) (k : Nat) : pw n B 2 i k = sm n fun j => B i j * B j k := by
 show sm n (fun j => pw n B 1 i j * B j k) = _
 exact sm_ext fun j _ => by rw [pw_one hi]
theorem pw_three (B : Nat → Nat → Int) {i : Nat} (hi : i < n) (l : Nat) : pw n B 3 i l = S2 n fun j k => B i j * B j k * B k l := by
 show sm n (fun k => pw n B 2 i k * B k l) = sm n fun j => sm n fun k => B i j * B j k * B k l
 rw [← sm_swap]
 exact sm_ext fun k _ => by rw [pw_two B hi, sm_mul']
theorem pw_four (B : Nat → Nat → Int) {i : Nat} (hi : i < n) (m : Nat) : pw n B 4 i m = S3 n fun j k l => B i j * B j k * B k l * B l m := by
 show sm n (fun l => pw n B 3 i l * B l m) = sm n fun j => sm n fun k => sm n fun l => B i j * B j k * B k l * B l m
 rw [sm_ext (g := fun j => sm n fun l => sm n fun k => B i j * B j k * B k l * B l m) fun j _ => sm_swap .., ← sm_swap]
 exact sm_ext fun l _ => by
  rw [pw_three B hi]
  show (sm n fun j => sm n fun k => B i j * B j k * B k l) * B l m = _
  rw [← sm_mul']
  exact sm_ext fun j _ => (sm_mul' ..).symm
theorem cw3 (B : Nat → Nat → Int) : cw n B 3 = S3 n fun i j k => B i j * B j k * B k i := sm_ext fun i hi => pw_three B hi i
theorem cw4 (B : Nat → Nat → Int) : cw n B 4 = S4 n fun i j k l => B i j * B j k * B k l * B l i := sm_ext fun i hi => pw_four B hi i
theorem cw5 (B : Nat → Nat → Int) : cw n B 5 = S5 n fun i j k l m => B i j * B j k * B k l * B l m * B m i := sm_ext fun i hi => by
 show sm n (fun m => pw n B 4 i m * B m i) = sm n fun j => sm n fun k => sm n fun l => sm n fun m => B i j * B j k * B k l * B l m * B m i
 rw [sm_ext (g := fun j => sm n fun k => sm n fun m => sm n fun l => B i j * B j k * B k l * B l m * B m i) fun j _ => sm_ext fun k _ => sm_swap .., sm_ext (g := fun j => sm n fun m => sm n fun k => sm n fun l => B i j * B j k * B k l * B l m * B m i) fun j _ => sm_swap .., ← sm_swap]
 refine sm_ext fun m _ => ?_
 rw [pw_four B hi]
 show (sm n fun j => sm n fun k => sm n fun l => B i j * B j k * B k l * B l m) * B m i = _
 rw [← sm_mul']
 refine sm_ext fun j _ => ?_
 rw [← sm_mul']
 exact sm_ext fun k _ => (sm_mul' ..).symm
theorem sq_even (a : Int) : (2 : Int) ∣ a * a - a := by
 have : a % 2 = 0 ∨ a % 2 = 1 := by omega
 rcases this with h | h
 ·obtain ⟨q, hq⟩ : ∃ q, a = 2 * q := ⟨a / 2, by omega⟩
  exact ⟨2 * q * q - q, by rw [hq]; grind⟩
 ·obtain ⟨q, hq⟩ : ∃ q, a = 2 * q + 1 := ⟨a / 2, by omega⟩
  exact ⟨2 * q * q + q, by rw [hq]; grind⟩
theorem cube_dvd (a : Int) : (3 : Int) ∣ a * a * a - a := by
 have : a % 3 = 0 ∨ a % 3 = 1 ∨ a % 3 = 2 := by omega
 rcases this with h | h | h
 ·obtain ⟨q, hq⟩ : ∃ q, a = 3 * q := ⟨a / 3, by omega⟩
  exact ⟨9 * q * q * q - q, by rw [hq]; grind⟩
 ·obtain ⟨q, hq⟩ : ∃ q, a = 3 * q + 1 := ⟨a / 3, by omega⟩
  exact ⟨9 * q * q * q + 9 * q * q + 2 * q, by rw [hq]; grind⟩
 ·obtain ⟨q, hq⟩ : ∃ q, a = 3 * q + 2 := ⟨a / 3, by omega⟩
  exact ⟨9 * q * q * q + 18 * q * q + 11 * q + 2, by rw [hq]; grind⟩
theorem four_dvd (a : Int) : (4 : Int) ∣ a * a * (a * a) - a * a := by
 have : a % 2 = 0 ∨ a % 2 = 1 := by omega
 rcases this with h | h
 ·obtain ⟨q, hq⟩ : ∃ q, a = 2 * q := ⟨a / 2, by omega⟩
  exact ⟨4 * q * q * q * q - q * q, by rw [hq]; grind⟩
 ·obtain ⟨q, hq⟩ : ∃ q, a = 2 * q + 1 := ⟨a / 2, by omega⟩
  exact ⟨(2 * q + 1) * (2 * q + 1) * (q * q + q), by rw [hq]; grind⟩
theorem five_dvd (a : Int) : (5 : Int) ∣ a * a * a * a * a - a := by
 have : a % 5 = 0 ∨ a % 5 = 1 ∨ a % 5 = 2 ∨ a % 5 = 3 ∨ a % 5 = 4 := by omega
 have key : ∀ r q : Int, a = 5 * q + r → (5 : Int) ∣ r * r * r * r * r - r → (5 : Int) ∣ a * a * a * a * a - a := fun r q hq ⟨x, hx⟩ =>
  ⟨625 * q * q * q * q * q + 625 * q * q * q * q * r + 250 * q * q * q * r * r + 50 * q * q * r * r * r + 5 * q * r * r * r * r - q + x, by rw [hq]; grind⟩
 rcases this with h | h | h | h | h
 ·exact key 0 (a / 5) (by omega) ⟨0, by decide⟩
 ·exact key 1 (a / 5) (by omega) ⟨0, by decide⟩
 ·exact key 2 (a / 5) (by omega) ⟨6, by decide⟩
 ·exact key 3 (a / 5) (by omega) ⟨48, by decide⟩
 ·exact key 4 (a / 5) (by omega) ⟨204, by decide⟩
variable (hn : n ≤ 8)
include hn
theorem gauss2 (B : Nat → Nat → Int) : (2 : Int) ∣ cw n B 2 - tr n B := by
 obtain ⟨X, hX⟩ := sum2 hn (fun i j => B i j * B j i) fun i j => Int.mul_comm ..
 have h := sm_dvd (n := n) (d := 2) (f := fun i => B i i * B i i - B i i) fun i _ => sq_even _
 rw [sm_sub] at h
 rw [cw2, hX]
 unfold tr
 obtain ⟨y, hy⟩ := h
 exact ⟨X + y, by omega⟩
theorem gauss3 (B : Nat → Nat → Int) : (3 : Int) ∣ cw n B 3 - tr n B := by
 obtain ⟨X, hX⟩ := sum3 hn (fun i j k => B i j * B j k * B k i) fun i j k => by grind
 have h := sm_dvd (n := n) (d := 3) (f := fun i => B i i * B i i * B i i - B i i) fun i _ => cube_dvd _
 rw [sm_sub] at h
 rw [cw3, hX]
 unfold tr
 obtain ⟨y, hy⟩ := h
 exact ⟨X + y, by omega⟩
theorem gauss5 (B : Nat → Nat → Int) : (5 : Int) ∣ cw n B 5 - tr n B := by
 obtain ⟨X, hX⟩ := sum5 hn (fun i j k l m => B i j * B j k * B k l * B l m * B m i) fun i j k l m => by grind
 have h := sm_dvd (n := n) (d := 5) (f := fun i => B i i * B i i * B i i * B i i * B i i - B i i) fun i _ => five_dvd _
 rw [sm_sub] at h
 rw [cw5, hX]
 unfold tr
 obtain ⟨y, hy⟩ := h
 exact ⟨X + y, by omega⟩
theorem gauss4 (B : Nat → Nat → Int) : (4 : Int) ∣ cw n B 4 - cw n B 2 := by
 obtain ⟨X, hX⟩ := sum4 hn (fun i j k l => B i j * B j k * B k l * B l i) fun i j k l => by grind
 have hx : ∀ i j, B i j * B j i * (B i j * B j i) - B i j * B j i = 2 * ((B i j * B j i * (B i j * B j i) - B i j * B j i) / 2) := fun i j => (Int.mul_ediv_cancel' (sq_even _)).symm
 obtain ⟨Y, hY⟩ := sum2 hn (fun i j => (B i j * B j i * (B i j * B j i) - B i j * B j i) / 2) fun i j => by
  show (B j i * B i j * (B j i * B i j) - B j i * B i j) / 2 = _
  rw [Int.mul_comm (B j i)]
 have e : S2 n (fun i j => B i j * B j i * B i j * B j i) - cw n B 2 = 2 * S2 n (fun i j => (B i j * B j i * (B i j * B j i) - B i j * B j i) / 2) := by
  rw [cw2]
  unfold S2
  rw [← sm_sub, ← sm_mul]
  refine sm_ext fun i _ => ?_
  rw [← sm_sub, ← sm_mul]
  refine sm_ext fun j _ => ?_
  rw [← hx]; grind
 have e2 : 2 * sm n (fun i => (B i i * B i i * (B i i * B i i) - B i i * B i i) / 2) = sm n fun i => B i i * B i i * (B i i * B i i) - B i i * B i i := by
  rw [← sm_mul]; exact sm_ext fun i _ => (hx i i).symm
 have h := sm_dvd (n := n) (d := 4) (f := fun i => B i i * B i i * (B i i * B i i) - B i i * B i i) fun i _ => four_dvd _
 obtain ⟨z, hz⟩ := h
 rw [cw4, hX]
 exact ⟨X + Y + z, by omega⟩
theorem gauss6 (A : Nat → Nat → Int) : (6 : Int) ∣ cw n A 6 - cw n A 3 - cw n A 2 + cw n A 1 := by
 have h1 := gauss2 hn (pw n A 3)
 have h2 := gauss2 hn A
 have h3 := gauss3 hn (pw n A 2)
 have h4 := gauss3 hn A
 rw [← cw_mul 3 2, show tr n (pw n A 3) = cw n A 3 from rfl] at h1
 rw [← cw_mul 2 3, show tr n (pw n A 2) = cw n A 2 from rfl] at h3
 rw [← cw_one] at h2 h4
 have e1 : 3 * 2 = 6 := rfl
 have e2 : 2 * 3 = 6 := rfl
 rw [e1] at h1
 rw [e2] at h3
 omega
end
end Go.PV

/-
 Plain laws: closed walks on both sides.
 Conditions: none.
-/
set_option linter.all false
namespace Go.PV
theorem capMul_cap {S w a : Int} (hS : 0 ≤ S) (hw : 0 ≤ w) (h5 : 0 ≤ a) (h6 : a ≤ 9) : capMul 1000000001 (capAt S) (capAt w) a = capAt (S + w * a) := by
 have hs : 0 ≤ capAt S ∧ capAt S ≤ 1000000001 := by unfold capAt; split <;> omega
 have hc : 0 ≤ capAt w ∧ capAt w ≤ 1000000001 := by unfold capAt; split <;> omega
 have h1 : 0 ≤ capAt w * a := Int.mul_nonneg hc.1 h5
 have h2 : capAt w * a ≤ capAt w * 9 := Int.mul_le_mul_of_nonneg_left h6 hc.1
 unfold capMul
 rw [w64_id (n := capAt w * a) (by omega) (by omega), w64_id (n := capAt S + capAt w * a) (by omega) (by omega)]
 by_cases ha : a = 0
 ·subst ha
  simp only [Int.mul_zero, Int.add_zero]
  rw [if_neg (by omega)]
 ·have h3 : capAt w * 1 ≤ capAt w * a := Int.mul_le_mul_of_nonneg_left (by omega) hc.1
  have h4 : w * 1 ≤ w * a := Int.mul_le_mul_of_nonneg_left (by omega) hw
  by_cases hw2 : 1000000001 < w
  ·have e : capAt w = 1000000001 := by unfold capAt; rw [if_pos hw2]
   rw [e] at h3 ⊢
   have e2 : capAt (S + w * a) = 1000000001 := by unfold capAt; rw [if_pos (by omega)]
   rw [e2]
   split
   ·rfl
   ·omega
  ·have e : capAt w = w := by unfold capAt; rw [if_neg hw2]
   rw [e] at h1 ⊢
   unfold capAt
   (repeat' split) <;> omega
section
variable {n : Nat} {G : Nat → Nat → Int}
theorem powN_cap (hG : ∀ i j, i < n → j < n → 0 ≤ G i j ∧ G i j ≤ 9) : ∀ (d : Nat) {i j : Nat}, i < n → j < n → powN n G 1000000001 d i j = capAt (pw n G d i j)
 | 0, i, j, _, _ => by
  show idM i j = _
  unfold idM capAt
  simp only [pw]
  (repeat' split) <;> omega
 | d + 1, i, j, hi, hj => by
  have hA : ∀ i j, i < n → j < n → 0 ≤ G i j := fun i j hi hj => (hG i j hi hj).1
  show foldN n (fun acc k => capMul 1000000001 acc (powN n G 1000000001 d i k) (G k j)) 0 = capAt (sm n fun k => pw n G d i k * G k j)
  have : ∀ m, m ≤ n → foldN m (fun acc k => capMul 1000000001 acc (powN n G 1000000001 d i k) (G k j)) 0 = capAt (sm m fun k => pw n G d i k * G k j) := by
   intro m
   induction m with
   | zero => intro _; rfl
   | succ m ih =>
    intro hm
    rw [foldN_succ, ih (by omega), sm_succ, powN_cap hG d hi (show m < n by omega)]
    exact capMul_cap (sm_nonneg fun k hk => Int.mul_nonneg (pw_nonneg hA d hi (by omega)) (hA k j (by omega) hj)) (pw_nonneg hA d hi (by omega)) (hG m j (by omega) hj).1 (hG m j (by omega) hj).2
  exact this n (Nat.le_refl n)
theorem spec_closed_eq (hn : n ≤ 8) (hG : ∀ i j, i < n → j < n → 0 ≤ G i j ∧ G i j ≤ 9) (d : Nat) (hd : d ≤ 1048576) : spec_grClosed (mat n n G) (d : Int) = some (capAt (cw n G d)) := by
 have hA : ∀ i j, i < n → j < n → 0 ≤ G i j := fun i j hi hj => (hG i j hi hj).1
 have hx := loop_idx (body := spec_grClosed_b1 (mat n n (powN n G 1000000001 d))) n (fun i => (capAt (sm i fun i => pw n G d i i), (i : Int))) (capAt (cw n G d)) (fun i hi => by
  have h0 : 0 ≤ sm i fun i => pw n G d i i := sm_nonneg fun k hk => pw_nonneg hA d (by omega) (by omega)
  have h1 := pw_nonneg hA d hi hi
  have h2 : 0 ≤ capAt (sm i fun i => pw n G d i i) ∧ capAt (sm i fun i => pw n G d i i) ≤ 1000000001 := by unfold capAt; split <;> omega
  have h3 : 0 ≤ capAt (pw n G d i i) ∧ capAt (pw n G d i i) ≤ 1000000001 := by unfold capAt; split <;> omega
  simp only [spec_grClosed_b1, mat_len, idxO_mat hi, idxO_tab hi, Option.bind_some, powN_cap hG d hi hi, spec_grCap_eq, w64_nat (show i < 9223372036854775807 by omega), show ((i : Int) < (n : Int)) from by omega, decide_true, if_true, sm_succ]
  rw [w64_id (by omega) (by omega)]
  congr 3
  unfold capAt
  (repeat' split) <;> omega) (by
  simp only [spec_grClosed_b1, mat_len, Int.lt_irrefl, decide_false, Bool.false_eq_true, if_false]
  rfl)
 unfold spec_grClosed
 rw [spec_grPower_eq hn d hd, Option.bind_some]
 have hx' : loopO (spec_grClosed_b1 (mat n n (powN n G 1000000001 d))) (0, 0) = some (capAt (cw n G d)) := hx
 rw [hx']
 rfl
theorem impl_closed_eq (hn : n ≤ 8) (hG : ∀ i j, i < n → j < n → 0 ≤ G i j ∧ G i j ≤ 9) (d : Nat) (hd : d ≤ 1048576) : impl_closedWalks (mat n n G) (d : Int) = some (if 1000000000 < cw n G d then (0, false) else (cw n G d, true)) := by
 have hA : ∀ i j, i < n → j < n → 0 ≤ G i j := fun i j hi hj => (hG i j hi hj).1
 have hb : ∀ m, m ≤ n → 0 ≤ (sm m fun i => capAt (pw n G d i i)) ∧ (sm m fun i => capAt (pw n G d i i)) ≤ 1000000001 * m := by
  intro m
  induction m with
  | zero => intro _; simp [sm_zero]
  | succ m ih =>
   intro hm
   have h1 := ih (by omega)
   have h3 : 0 ≤ capAt (pw n G d m m) ∧ capAt (pw n G d m m) ≤ 1000000001 := by have := pw_nonneg hA d (show m < n by omega) (show m < n by omega); unfold capAt; split <;> omega
   rw [sm_succ]
   omega
 have hx := loop_idx (body := impl_closedWalks_b1 (mat n n (powN n G 1000000001 d))) n (fun i => (sm i fun i => capAt (pw n G d i i), (i : Int))) (sm n fun i => capAt (pw n G d i i)) (fun i hi => by
  have h1 := hb i (by omega)
  have h2 := hb (i + 1) (by omega)
  rw [sm_succ] at h2
  simp only [impl_closedWalks_b1, mat_len, idxO_mat hi, idxO_tab hi, Option.bind_some, powN_cap hG d hi hi, w64_nat (show i < 9223372036854775807 by omega), show ((i : Int) < (n : Int)) from by omega, decide_true, if_true, sm_succ]
  rw [w64_id (by omega) (by omega)]) (by
  simp only [impl_closedWalks_b1, mat_len, Int.lt_irrefl, decide_false, Bool.false_eq_true, if_false])
 have hx' : loopO (impl_closedWalks_b1 (mat n n (powN n G 1000000001 d))) (0, 0) = some (sm n fun i => capAt (pw n G d i i)) := hx
 unfold impl_closedWalks impl_power
 rw [impl_powerUpTo_eq hn d hd]
 simp only [Option.bind_some]
 rw [hx', Option.bind_some]
 unfold impl_closedWalks_k1
 have hle : (sm n fun i => capAt (pw n G d i i)) ≤ cw n G d := sm_le fun i hi => by unfold capAt; split <;> omega
 by_cases h : 1000000000 < cw n G d
 ·rw [if_pos h]
  have : 1000000000 < sm n fun i => capAt (pw n G d i i) := by
   refine Classical.byContradiction fun hno => ?_
   have : (sm n fun i => capAt (pw n G d i i)) = cw n G d := sm_ext fun i hi => by
    have := sm_one hi (f := fun i => capAt (pw n G d i i)) fun k hk => by have := pw_nonneg hA d hk hk; unfold capAt; split <;> omega
    by_cases h2 : 1000000001 < pw n G d i i
    ·have e : capAt (pw n G d i i) = 1000000001 := by unfold capAt; rw [if_pos h2]
     simp only [e] at this
     omega
    ·unfold capAt; rw [if_neg h2]
   omega
  simp [this]
 ·rw [if_neg h]
  have e : (sm n fun i => capAt (pw n G d i i)) = cw n G d := sm_ext fun i hi => by
   have := sm_one hi (f := fun i => pw n G d i i) fun k hk => pw_nonneg hA d hk hk
   have h2 : (sm n fun i => pw n G d i i) = cw n G d := rfl
   unfold capAt
   rw [if_neg]
   rw [h2] at this
   omega
  rw [e]
  simp [h]
end
end Go.PV

/-
 Plain laws: marks on lists, and that they are held.
 Conditions: none.
-/
set_option linter.all false
namespace Go.PV
section
variable {α : Type}
def marks (w : Nat) (f : Int → α) (n : Nat) (k : Int) : List α := tab n fun i => f (k + (w : Int) * i)
end
def markI (n : Nat) (k : Int) : List Int := marks 1 (fun c => c) n k
def markR (n : Nat) (k : Int) : List (Int × Int) := marks 2 (fun c => (c, c + 1)) n k
end Go.PV

/-
 Plain laws: numbers of cycles.
 Conditions: none.
-/
set_option linter.all false
namespace Go.PV
theorem loop_inv {X Y : Type} {body : X → Option (X ⊕ Y)} (I : X → Prop) (R : Y → Prop) (h : ∀ x o, I x → body x = some o → match o with | .inl x' => I x' | .inr y => R y) {x0 : X} {y : Y} (h0 : I x0) (e : loopO body x0 = some y) : R y := by
 obtain ⟨n, hn⟩ := loopO_some.1 e
 clear e
 induction n generalizing x0 with
 | zero => cases hn
 | succ n ih =>
  simp only [iterO] at hn
  cases hb : body x0 with
  | none => rw [hb] at hn; cases hn
  | some o =>
   have := h x0 o h0 hb
   rw [hb] at hn
   cases o with
   | inl x' => exact ih this hn
   | inr y' => simp only [Option.some.injEq] at hn; subst hn; exact this
def mu (k : Nat) : Int := [0, 1, -1, -1, 0, -1, 1, -1, 0, 0, 1, -1, 0].getD k 0
theorem impl_moebius_eq {k : Nat} (h1 : 1 ≤ k) (h2 : k ≤ 12) : impl_moebius (k : Int) = some (mu k) := by
 have go : ∀ (k : Nat) (y : Int ⊕ Int), iterO impl_moebius_b1 20 ((k : Int), 1, 2) = some y → Sum.elim id id y = mu k → impl_moebius (k : Int) = some (mu k) := fun k y h h3 => by
  unfold impl_moebius
  rw [loopO_some.2 ⟨20, h⟩]
  cases y with
  | inl a => simp only [Option.bind_some, Sum.elim_inl, id] at h3 ⊢; rw [h3]
  | inr a => simp only [Option.bind_some, Sum.elim_inr, id, impl_moebius_k1] at h3 ⊢; rw [h3]
 match k, h1, h2 with
 | 1, _, _ => exact go 1 (.inr 1) rfl rfl
 | 2, _, _ => exact go 2 (.inr (-1)) rfl rfl
 | 3, _, _ => exact go 3 (.inr (-1)) rfl rfl
 | 4, _, _ => exact go 4 (.inl 0) rfl rfl
 | 5, _, _ => exact go 5 (.inr (-1)) rfl rfl
 | 6, _, _ => exact go 6 (.inr 1) rfl rfl
 | 7, _, _ => exact go 7 (.inr (-1)) rfl rfl
 | 8, _, _ => exact go 8 (.inl 0) rfl rfl
 | 9, _, _ => exact go 9 (.inl 0) rfl rfl
 | 10, _, _ => exact go 10 (.inr 1) rfl rfl
 | 11, _, _ => exact go 11 (.inr (-1)) rfl rfl
 | 12, _, _ => exact go 12 (.inl 0) rfl rfl
def cyN (c : Nat → Int) (n : Nat) : Int := sm (n + 1) fun e => if n % e = 0 then mu (n / e) * c e else 0
theorem cy_inv (c : Nat → Int) {n : Nat} (h1 : 1 ≤ n) (h2 : n ≤ 12) : sm n (fun e => if n % e = 0 then cyN c e else 0) + cyN c n = c n := by
 have : n = 1 ∨ n = 2 ∨ n = 3 ∨ n = 4 ∨ n = 5 ∨ n = 6 ∨ n = 7 ∨ n = 8 ∨ n = 9 ∨ n = 10 ∨ n = 11 ∨ n = 12 := by omega
 rcases this with rfl | rfl | rfl | rfl | rfl | rfl | rfl | rfl | rfl | rfl | rfl | rfl <;> (simp [cyN, sm_succ, sm_zero, mu] <;> omega)
theorem cy_dvd {n : Nat} (hn : n ≤ 8) (A : Nat → Nat → Int) {e : Nat} (h1 : 1 ≤ e) (h2 : e ≤ 6) : (e : Int) ∣ cyN (cw n A) e := by
 have g2 := gauss2 hn A
 have g3 := gauss3 hn A
 have g4 := gauss4 hn A
 have g5 := gauss5 hn A
 have g6 := gauss6 hn A
 rw [← cw_one] at g2 g3 g5
 have : e = 1 ∨ e = 2 ∨ e = 3 ∨ e = 4 ∨ e = 5 ∨ e = 6 := by omega
 rcases this with rfl | rfl | rfl | rfl | rfl | rfl <;> (simp [cyN, sm_succ, sm_zero, mu] <;> omega)
theorem mu_bd (k : Nat) : -1 ≤ mu k ∧ mu k ≤ 1 := by
 by_cases h : k < 13
 ·have : ∀ k, k < 13 → -1 ≤ mu k ∧ mu k ≤ 1 := by decide
  exact this k h
 ·have : mu k = 0 := by unfold mu; rw [List.getD_eq_getElem?_getD, List.getElem?_eq_none (by simp; omega)]; rfl
  rw [this]; decide
theorem cy_bd {c : Nat → Int} {n : Nat} : ∀ m, (∀ e, e < m → n % e = 0 → 0 ≤ c e ∧ c e ≤ 1000000000) → -1000000000 * (m : Int) ≤ (sm m fun e => if n % e = 0 then mu (n / e) * c e else 0) ∧ (sm m fun e => if n % e = 0 then mu (n / e) * c e else 0) ≤ 1000000000 * (m : Int)
 | 0, _ => by simp [sm_zero]
 | m + 1, h => by
  have ih := cy_bd m fun e he hd => h e (by omega) hd
  rw [sm_succ]
  have : -1000000000 ≤ (if n % m = 0 then mu (n / m) * c m else 0) ∧ (if n % m = 0 then mu (n / m) * c m else 0) ≤ 1000000000 := by
   split
   ·rename_i hd
    have h1 := h m (by omega) hd
    have h2 := mu_bd (n / m)
    have : mu (n / m) = -1 ∨ mu (n / m) = 0 ∨ mu (n / m) = 1 := by omega
    rcases this with e | e | e <;> rw [e] <;> omega
   ·omega
  omega
section
variable {n : Nat} {G : Nat → Nat → Int} (hn : n ≤ 8) (hG : ∀ i j, i < n → j < n → 0 ≤ G i j ∧ G i j ≤ 9)
include hn hG
theorem cw_ge (d : Nat) : 0 ≤ cw n G d := sm_nonneg fun i hi => pw_nonneg (fun i j hi hj => (hG i j hi hj).1) d hi hi
theorem cw_le_of {e m : Nat} (hm : 1 ≤ m) (hd : m % e = 0) : cw n G e ≤ cw n G m := cw_dvd (fun i j hi hj => (hG i j hi hj).1) (Nat.dvd_of_mod_eq_zero hd) hm
theorem impl_cycleCount_eq {m : Nat} (h1 : 1 ≤ m) (h2 : m ≤ 12) : impl_cycleCount (mat n n G) (m : Int) = some (if 1000000000 < cw n G m then (0, false) else (Int.tdiv (cyN (cw n G) m) (m : Int), true)) := by
 obtain ⟨y, e1, e2⟩ := loop_run (body := impl_cycleCount_b1 (mat n n G) (m : Int)) (fun s => ∃ i : Nat, i ≤ m ∧ s = (sm (i + 1) (fun e => if m % e = 0 then mu (m / e) * cw n G e else 0), ((i + 1 : Nat) : Int)) ∧ ∀ e, e ≤ i → m % e = 0 → cw n G e ≤ 1000000000) (fun s => m + 1 - s.2.toNat)
  (fun y => y = if 1000000000 < cw n G m then .inl (0, false) else .inr (cyN (cw n G) m)) (fun s ⟨i, hi, e, hq⟩ => by
   subst e
   by_cases hlt : i < m
   ·have ht : Int.tmod (m : Int) ((i + 1 : Nat) : Int) = ((m % (i + 1) : Nat) : Int) := rfl
    have hdv : Int.tdiv (m : Int) ((i + 1 : Nat) : Int) = ((m / (i + 1) : Nat) : Int) := rfl
    simp only [impl_cycleCount_b1, show (((i + 1 : Nat) : Int) ≤ (m : Int)) from by omega, decide_true, if_true]
    rw [guardO_bind_pos (by omega), ht]
    by_cases hd : m % (i + 1) = 0
    ·have hb : (((m % (i + 1) : Nat) : Int) == 0) = true := by rw [hd]; rfl
     have hle := cw_le_of hn hG h1 hd
     rw [if_pos hb, impl_closed_eq hn hG (i + 1) (by omega), Option.bind_some]
     by_cases hc : 1000000000 < cw n G (i + 1)
     ·right
      refine ⟨.inl (0, false), by rw [if_pos hc]; rfl, by rw [if_pos (by omega)]⟩
     ·left
      have hdd := Nat.div_pos (show i + 1 ≤ m by omega) (show 0 < i + 1 by omega)
      have hdl := Nat.div_le_self m (i + 1)
      have b1 := cy_bd (c := cw n G) (n := m) (i + 1) fun e he hd => ⟨cw_ge hn hG e, hq e (by omega) hd⟩
      have b2 := cy_bd (c := cw n G) (n := m) (i + 1 + 1) fun e he hd => ⟨cw_ge hn hG e, by
       by_cases h : e = i + 1
       ·subst h; omega
       ·exact hq e (by omega) hd⟩
      rw [sm_succ, if_pos hd] at b2
      refine ⟨_, by
       rw [if_neg hc]
       simp only [Bool.not_true, Bool.false_eq_true, if_false, hdv]
       rw [w64_id (n := ((m / (i + 1) : Nat) : Int)) (by omega) (by omega), impl_moebius_eq hdd (by omega), Option.bind_some, w64_id (n := mu (m / (i + 1)) * cw n G (i + 1)) (by omega) (by omega), w64_id (by omega) (by omega), w64_nat (show i + 1 < 9223372036854775807 by omega)], ⟨i + 1, by omega, by rw [sm_succ (i + 1) (fun e => if m % e = 0 then mu (m / e) * cw n G e else 0), if_pos hd], fun e he hd => by
       by_cases h : e = i + 1
       ·subst h; omega
       ·exact hq e (by omega) hd⟩, by simp only [Int.toNat_natCast]; omega⟩
    ·have hb : (((m % (i + 1) : Nat) : Int) == 0) = false := by rw [beq_eq_false_iff_ne]; exact fun h => hd (by exact_mod_cast h)
     left
     refine ⟨_, by rw [hb]; simp only [Bool.false_eq_true, if_false]; rw [w64_nat (show i + 1 < 9223372036854775807 by omega)], ⟨i + 1, by omega, by rw [sm_succ (i + 1) (fun e => if m % e = 0 then mu (m / e) * cw n G e else 0), if_neg hd, Int.add_zero], fun e he hd' => by
       by_cases h : e = i + 1
       ·subst h; exact absurd hd' hd
       ·exact hq e (by omega) hd'⟩, by simp only [Int.toNat_natCast]; omega⟩
   ·have : i = m := by omega
    subst this
    right
    have h3 := hq i (Nat.le_refl _) (Nat.mod_self i)
    exact ⟨.inr (cyN (cw n G) i), by simp only [impl_cycleCount_b1, show ¬ (((i + 1 : Nat) : Int) ≤ (i : Int)) from by omega, decide_false, Bool.false_eq_true, if_false]; rfl, by rw [if_neg (by omega)]⟩) (0, 1) ⟨0, by omega, by
    have : ¬ (m % 0 = 0) := by rw [Nat.mod_zero]; omega
    rw [sm_succ, if_neg this]; rfl, fun e he hd => by
    have : e = 0 := by omega
    subst this
    rw [Nat.mod_zero] at hd; omega⟩
 unfold impl_cycleCount
 rw [e1, e2]
 by_cases hc : 1000000000 < cw n G m
 ·rw [if_pos hc, if_pos hc]; rfl
 ·rw [if_neg hc, if_neg hc]
  have b := cy_bd (c := cw n G) (n := m) (m + 1) fun e he hd => ⟨cw_ge hn hG e, by have := cw_le_of hn hG h1 hd; omega⟩
  have b' : -1000000000 * ((m + 1 : Nat) : Int) ≤ cyN (cw n G) m ∧ cyN (cw n G) m ≤ 1000000000 * ((m + 1 : Nat) : Int) := b
  have hab : (Int.tdiv (cyN (cw n G) m) (m : Int)).natAbs ≤ (cyN (cw n G) m).natAbs := by rw [Int.natAbs_tdiv]; exact Nat.div_le_self _ _
  simp only [Option.bind_some, Sum.elim_inr, impl_cycleCount_k1]
  rw [guardO_bind_pos (by omega), w64_id (by omega) (by omega)]
end
end Go.PV

/-
 Plain laws: numbers of cycles on the reference's side; the laws.
 Conditions: none.
-/
set_option linter.all false
namespace Go.PV
def zc (n : Nat) (G : Nat → Nat → Int) (m : Nat) : Int := if 1000000000 < cw n G m then -1 else Int.tdiv (cyN (cw n G) m) (m : Int)
def zS (n : Nat) (G : Nat → Nat → Int) (m i : Nat) : Int × Int := (cw n G m - sm (i + 1) (fun e => if m % e = 0 then cyN (cw n G) e else 0), ((i + 1 : Nat) : Int))
section
variable {n : Nat} {G : Nat → Nat → Int} (hn : n ≤ 8) (hG : ∀ i j, i < n → j < n → 0 ≤ G i j ∧ G i j ≤ 9)
include hn hG
theorem cyN_bd {m e : Nat} (h1 : 1 ≤ m) (hm : cw n G m ≤ 1000000000) (hd : m % e = 0) (he : e ≤ 12) (he1 : 1 ≤ e) : -13000000000 ≤ cyN (cw n G) e ∧ cyN (cw n G) e ≤ 13000000000 := by
 have h3 := cw_le_of hn hG h1 hd
 have b := cy_bd (c := cw n G) (n := e) (e + 1) fun e' he hd' => ⟨cw_ge hn hG e', by have := cw_le_of hn hG he1 hd'; omega⟩
 have b' : -1000000000 * ((e + 1 : Nat) : Int) ≤ cyN (cw n G) e ∧ cyN (cw n G) e ≤ 1000000000 * ((e + 1 : Nat) : Int) := b
 omega
theorem cyS_bd {m : Nat} (h1 : 1 ≤ m) (h2 : m ≤ 12) (hm : cw n G m ≤ 1000000000) : ∀ k, k ≤ m → -13000000000 * (k : Int) ≤ (sm k fun e => if m % e = 0 then cyN (cw n G) e else 0) ∧ (sm k fun e => if m % e = 0 then cyN (cw n G) e else 0) ≤ 13000000000 * (k : Int)
 | 0, _ => by simp [sm_zero]
 | k + 1, h => by
  have ih := cyS_bd h1 h2 hm k (by omega)
  rw [sm_succ]
  have : -13000000000 ≤ (if m % k = 0 then cyN (cw n G) k else 0) ∧ (if m % k = 0 then cyN (cw n G) k else 0) ≤ 13000000000 := by
   split
   ·rename_i hd
    by_cases hk : k = 0
    ·subst hk; rw [Nat.mod_zero] at hd; omega
    ·exact cyN_bd hn hG h1 hm hd (by omega) (by omega)
   ·omega
  omega
theorem zc_mul {m e : Nat} (h1 : 1 ≤ m) (h2 : m ≤ 12) (hm : cw n G m ≤ 1000000000) (hd : m % e = 0) (he1 : 1 ≤ e) (he : e < m) : (e : Int) * zc n G e = cyN (cw n G) e := by
 have h3 := cw_le_of hn hG h1 hd
 have h6 : e ≤ 6 := by
  obtain ⟨k, rfl⟩ := Nat.dvd_of_mod_eq_zero hd
  have : 2 ≤ k := by
   match k with
   | 0 => omega
   | 1 => omega
   | k + 2 => omega
  have := Nat.mul_le_mul_left e this
  omega
 unfold zc
 rw [if_neg (by omega)]
 exact Int.mul_tdiv_cancel' (cy_dvd hn G he1 h6)
theorem z_step {rc : List (List Int) → Int → Option Int} {m i : Nat} (h1 : 1 ≤ m) (h2 : m ≤ 12) (hm : cw n G m ≤ 1000000000) (hi : i + 1 < m) (hr : m % (i + 1) = 0 → rc (mat n n G) ((i + 1 : Nat) : Int) = some (zc n G (i + 1))) :
  spec_zeCycles_r_b1 rc (mat n n G) (m : Int) (zS n G m i) = some (.inl (zS n G m (i + 1))) := by
 have ht : Int.tmod (m : Int) ((i + 1 : Nat) : Int) = ((m % (i + 1) : Nat) : Int) := rfl
 have b1 := cyS_bd hn hG h1 h2 hm (i + 1) (by omega)
 have b2 := cyS_bd hn hG h1 h2 hm (i + 1 + 1) (by omega)
 have g0 := cw_ge hn hG m
 unfold zS
 simp only [spec_zeCycles_r_b1, show (((i + 1 : Nat) : Int) < (m : Int)) from by omega, decide_true, if_true]
 rw [guardO_bind_pos (by omega), ht]
 by_cases hd : m % (i + 1) = 0
 ·have hb : (((m % (i + 1) : Nat) : Int) == 0) = true := by rw [hd]; rfl
  have hz := zc_mul hn hG h1 h2 hm hd (by omega) hi
  have hc := cyN_bd hn hG h1 hm hd (by omega) (by omega)
  rw [if_pos hb, hr hd, Option.bind_some, hz]
  rw [sm_succ (i + 1) (fun e => if m % e = 0 then cyN (cw n G) e else 0), if_pos hd] at b2 ⊢
  rw [w64_id (n := cyN (cw n G) (i + 1)) (by omega) (by omega), w64_id (by omega) (by omega), w64_nat (show i + 1 < 9223372036854775807 by omega)]
  congr 3
  omega
 ·have hb : (((m % (i + 1) : Nat) : Int) == 0) = false := by rw [beq_eq_false_iff_ne]; exact fun h => hd (by exact_mod_cast h)
  rw [hb]
  simp only [Bool.false_eq_true, if_false]
  rw [sm_succ (i + 1) (fun e => if m % e = 0 then cyN (cw n G) e else 0), if_neg hd, w64_nat (show i + 1 < 9223372036854775807 by omega), Int.add_zero]
theorem z_end {rc : List (List Int) → Int → Option Int} {m i : Nat} (h1 : 1 ≤ m) (h2 : m ≤ 12) (hi : i + 1 = m) : spec_zeCycles_r_b1 rc (mat n n G) (m : Int) (zS n G m i) = some (.inr (cyN (cw n G) m)) := by
 have := cy_inv (cw n G) h1 h2
 unfold zS
 rw [hi]
 simp only [spec_zeCycles_r_b1, Int.lt_irrefl, decide_false, Bool.false_eq_true, if_false]
 congr 2
 omega
theorem z_0 {m : Nat} (h1 : 1 ≤ m) : zS n G m 0 = (cw n G m, 1) := by
 have : ¬ (m % 0 = 0) := by rw [Nat.mod_zero]; omega
 unfold zS
 rw [sm_succ, if_neg this, sm_zero]
 simp
theorem z_fin {m : Nat} (h1 : 1 ≤ m) (h2 : m ≤ 12) (hm : cw n G m ≤ 1000000000) : spec_zeCycles_r_k1 (m : Int) (cyN (cw n G) m) = some (zc n G m) := by
 have b := cyN_bd hn hG h1 hm (Nat.mod_self m) h2 h1
 have hab : (Int.tdiv (cyN (cw n G) m) (m : Int)).natAbs ≤ (cyN (cw n G) m).natAbs := by rw [Int.natAbs_tdiv]; exact Nat.div_le_self _ _
 unfold spec_zeCycles_r_k1 zc
 rw [guardO_bind_pos (by omega), w64_id (by omega) (by omega), if_neg (by omega)]
theorem z_cap {m : Nat} : (capAt (cw n G m) > 1000000000) ↔ 1000000000 < cw n G m := by
 unfold capAt; split <;> omega
theorem z_all {rc : List (List Int) → Int → Option Int} {m : Nat} (h1 : 1 ≤ m) (h2 : m ≤ 12) (hr : ∀ e, 1 ≤ e → e < m → rc (mat n n G) (e : Int) = some (zc n G e)) : spec_zeCycles_r rc (mat n n G) (m : Int) = some (zc n G m) := by
 unfold spec_zeCycles_r
 rw [spec_closed_eq hn hG m (by omega), Option.bind_some]
 by_cases hc : 1000000000 < cw n G m
 ·rw [if_pos (by simpa using (z_cap hn hG).2 hc)]
  unfold zc; rw [if_pos hc]
 ·rw [if_neg (by simpa using fun h => hc ((z_cap hn hG).1 h))]
  have e : capAt (cw n G m) = cw n G m := by unfold capAt; rw [if_neg (by omega)]
  have hx := loop_idx (body := spec_zeCycles_r_b1 rc (mat n n G) (m : Int)) (m - 1) (zS n G m) (cyN (cw n G) m) (fun i hi => z_step hn hG h1 h2 (by omega) (by omega) fun _ => hr (i + 1) (by omega) (by omega)) (z_end hn hG h1 h2 (by omega))
  rw [z_0 hn hG h1] at hx
  rw [e, hx, Option.bind_some, z_fin hn hG h1 h2 (by omega)]
theorem z_some {rc : List (List Int) → Int → Option Int} {m : Nat} (h1 : 1 ≤ m) (h2 : m ≤ 12) (hr : ∀ e r, 1 ≤ e → e < m → rc (mat n n G) (e : Int) = some r → r = zc n G e) {r : Int} (h : spec_zeCycles_r rc (mat n n G) (m : Int) = some r) : r = zc n G m := by
 unfold spec_zeCycles_r at h
 rw [spec_closed_eq hn hG m (by omega), Option.bind_some] at h
 by_cases hc : 1000000000 < cw n G m
 ·rw [if_pos (by simpa using (z_cap hn hG).2 hc)] at h
  unfold zc; rw [if_pos hc]; exact (Option.some.inj h).symm
 ·rw [if_neg (by simpa using fun h => hc ((z_cap hn hG).1 h))] at h
  have e : capAt (cw n G m) = cw n G m := by unfold capAt; rw [if_neg (by omega)]
  rw [e, ← z_0 hn hG h1] at h
  obtain ⟨y, e1, h⟩ := Option.bind_eq_some_iff.1 h
  have := loop_inv (fun s => ∃ i, i + 1 ≤ m ∧ s = zS n G m i) (fun y => y = cyN (cw n G) m) (fun s o ⟨i, hi, e2⟩ hb => by
   subst e2
   by_cases hlt : i + 1 < m
   ·have key : (m % (i + 1) = 0 → rc (mat n n G) ((i + 1 : Nat) : Int) = some (zc n G (i + 1))) → o = .inl (zS n G m (i + 1)) := fun h3 => by
     rw [z_step hn hG h1 h2 (by omega) hlt h3] at hb
     exact (Option.some.inj hb).symm
    have : o = .inl (zS n G m (i + 1)) := by
     cases hv : rc (mat n n G) ((i + 1 : Nat) : Int) with
     | some v =>
      have := hr (i + 1) v (by omega) hlt hv
      exact key fun _ => by rw [hv, this]
     | none =>
      by_cases hd : m % (i + 1) = 0
      ·exfalso
       have ht : Int.tmod (m : Int) ((i + 1 : Nat) : Int) = ((m % (i + 1) : Nat) : Int) := rfl
       have hbb : (((m % (i + 1) : Nat) : Int) == 0) = true := by rw [hd]; rfl
       unfold zS at hb
       simp only [spec_zeCycles_r_b1, show (((i + 1 : Nat) : Int) < (m : Int)) from by omega, decide_true, if_true] at hb
       rw [guardO_bind_pos (by omega), ht, if_pos hbb, hv] at hb
       cases hb
      ·exact key fun h => absurd h hd
    subst this
    exact ⟨i + 1, by omega, rfl⟩
   ·rw [z_end hn hG h1 h2 (by omega)] at hb
    obtain rfl := Option.some.inj hb
    rfl) ⟨0, by omega, rfl⟩ e1
  rw [this, z_fin hn hG h1 h2 (by omega)] at h
  exact (Option.some.inj h).symm
theorem spec_zeCycles_eq {m : Nat} (h1 : 1 ≤ m) (h2 : m ≤ 12) : spec_zeCycles (mat n n G) (m : Int) = some (zc n G m) := by
 have tot : ∀ (k m : Nat), 1 ≤ m → m ≤ 12 → m ≤ k → spec_zeCycles_f k (mat n n G) (m : Int) = some (zc n G m) := by
  intro k
  induction k with
  | zero => intro m a b c; omega
  | succ k ih => intro m a b c; exact z_all hn hG a b fun e e1 e2 => ih e e1 (by omega) (by omega)
 have par : ∀ (k m : Nat) (r : Int), 1 ≤ m → m ≤ 12 → spec_zeCycles_f k (mat n n G) (m : Int) = some r → r = zc n G m := by
  intro k
  induction k with
  | zero => intro m r _ _ h; cases h
  | succ k ih => intro m r a b h; exact z_some hn hG a b (fun e r e1 e2 h => ih e r e1 (by omega) h) h
 exact fuelO_eq m (tot m m h1 h2 (Nat.le_refl m)) fun k r h => par k m r h1 h2 h
end
end Go.PV

/-
 Plain laws: numbers of cycles are not negative.
 Conditions: none.
-/
set_option linter.all false
namespace Go.PV
section
variable {n : Nat} {A : Nat → Nat → Int} (hA : ∀ i j, i < n → j < n → 0 ≤ A i j)
include hA
theorem pw_step (d : Nat) {i j l : Nat} (hi : i < n) (hj : j < n) (hl : l < n) : pw n A d i l * A l j ≤ pw n A (d + 1) i j :=
 sm_one hl (f := fun l => pw n A d i l * A l j) fun k hk => Int.mul_nonneg (pw_nonneg hA d hi hk) (hA k j hk hj)
theorem pw_odd {i j : Nat} (hi : i < n) (hj : j < n) (h : 1 ≤ A i j) (h' : 1 ≤ A j i) : ∀ k, A i j ≤ pw n A (2 * k + 1) i j
 | 0 => by rw [show 2 * 0 + 1 = 1 from rfl, pw_one hi]; exact Int.le_refl _
 | k + 1 => by
  have ih := pw_odd hi hj h h' k
  have s1 := pw_step hA (2 * k + 1) hi hi hj
  have s2 := pw_step hA (2 * k + 1 + 1) hi hj hi
  have m1 := Int.mul_le_mul (show (1 : Int) ≤ pw n A (2 * k + 1) i j by omega) h' (by omega) (by omega)
  have m2 := Int.mul_le_mul_of_nonneg_right (show (1 : Int) ≤ pw n A (2 * k + 1 + 1) i i by omega) (show 0 ≤ A i j by omega)
  have e : 2 * (k + 1) + 1 = 2 * k + 1 + 1 + 1 := by omega
  rw [e]
  omega
theorem pw_diag {i : Nat} (hi : i < n) : ∀ k, 1 ≤ k → A i i ≤ pw n A k i i := by
 intro k
 induction k with
 | zero => intro h; omega
 | succ k ih =>
  intro _
  by_cases h0 : k = 0
  ·subst h0; rw [Nat.zero_add, pw_one hi]; exact Int.le_refl _
  ·have h1 := ih (by omega)
   have h2 := pw_step hA k hi hi hi
   have h3 := hA i i hi hi
   by_cases h4 : A i i = 0
   ·rw [h4]; exact pw_nonneg hA _ hi hi
   ·have h5 := Int.mul_le_mul h1 (show (1 : Int) ≤ A i i by omega) (by omega) (by omega)
    omega
theorem cw_odd (k : Nat) : cw n A 2 - tr n A ≤ cw n A ((2 * k + 1) * 2) - cw n A (2 * k + 1) := by
 rw [cw_mul, cw2, cw2, show cw n A (2 * k + 1) = tr n (pw n A (2 * k + 1)) from rfl]
 have d : ∀ B : Nat → Nat → Int, S2 n (fun i j => B i j * B j i) - tr n B = S2 n fun i j => B i j * B j i - if j = i then B i i else 0 := fun B => by
  unfold S2 tr
  rw [← sm_sub]
  refine sm_ext fun i hi => ?_
  rw [sm_sub, sm_delta hi fun _ => B i i]
 rw [d, d]
 refine sm_le fun i hi => sm_le fun j hj => ?_
 have p1 := pw_nonneg hA (2 * k + 1) hi hj
 have p2 := pw_nonneg hA (2 * k + 1) hj hi
 have a1 := hA i j hi hj
 have a2 := hA j i hj hi
 by_cases h : j = i
 ·subst h
  simp only [if_true]
  have h1 := pw_diag hA hj (2 * k + 1) (by omega)
  by_cases h0 : A j j = 0
  ·rw [h0]
   by_cases h3 : pw n A (2 * k + 1) j j = 0
   ·rw [h3]; decide
   ·have := Int.mul_le_mul_of_nonneg_left (show (1 : Int) ≤ pw n A (2 * k + 1) j j by omega) p1
    omega
  ·have m1 := Int.mul_le_mul_of_nonneg_left h1 (show 0 ≤ A j j - 1 by omega)
   have m2 := Int.mul_le_mul_of_nonneg_right (show A j j - 1 ≤ pw n A (2 * k + 1) j j - 1 by omega) p1
   grind
 ·simp only [if_neg h]
  by_cases h0 : A i j = 0 ∨ A j i = 0
  ·have : A i j * A j i = 0 := by rcases h0 with h0 | h0 <;> rw [h0] <;> simp
   rw [this]
   have := Int.mul_nonneg p1 p2
   omega
  ·have b1 := pw_odd hA hi hj (by omega) (by omega) k
   have b2 := pw_odd hA hj hi (by omega) (by omega) k
   have := Int.mul_le_mul b1 b2 a2 p1
   omega
theorem cyN_nonneg {m : Nat} (h1 : 1 ≤ m) (h2 : m ≤ 12) : 0 ≤ cyN (cw n A) m := by
 have hB : ∀ i j, i < n → j < n → 0 ≤ pw n A 2 i j := fun i j hi hj => pw_nonneg hA 2 hi hj
 have o3 := cw_odd hA 1
 have o5 := cw_odd hA 2
 have o6 := cw_odd hB 1
 rw [← cw_mul 2 2, ← cw_mul 2 ((2 * 1 + 1) * 2), ← cw_mul 2 (2 * 1 + 1), show tr n (pw n A 2) = cw n A 2 from rfl] at o6
 rw [← cw_one] at o3 o5
 have dv : ∀ d m : Nat, m % d = 0 → 1 ≤ m → cw n A d ≤ cw n A m := fun d m h hm => cw_dvd hA (Nat.dvd_of_mod_eq_zero h) hm
 have n1 : 0 ≤ cw n A 1 := sm_nonneg fun i hi => pw_nonneg hA 1 hi hi
 have d2 := dv 1 2 rfl (by omega)
 have d3 := dv 1 3 rfl (by omega)
 have d4 := dv 2 4 rfl (by omega)
 have d5 := dv 1 5 rfl (by omega)
 have d7 := dv 1 7 rfl (by omega)
 have d8 := dv 4 8 rfl (by omega)
 have d9 := dv 3 9 rfl (by omega)
 have d11 := dv 1 11 rfl (by omega)
 have : m = 1 ∨ m = 2 ∨ m = 3 ∨ m = 4 ∨ m = 5 ∨ m = 6 ∨ m = 7 ∨ m = 8 ∨ m = 9 ∨ m = 10 ∨ m = 11 ∨ m = 12 := by omega
 rcases this with rfl | rfl | rfl | rfl | rfl | rfl | rfl | rfl | rfl | rfl | rfl | rfl <;> (simp [cyN, sm_succ, sm_zero, mu] at * <;> omega)
end
theorem both_CycleCount (g : List (List Int)) (m : Int) (hg : sized g) : ∃ r, spec_CycleCount g m = some r ∧ impl_CycleCount g m = some r := by
 unfold spec_CycleCount impl_CycleCount impl_isLength
 rw [spec_grGood_eq g hg, impl_isGraph_eq g hg]
 cases h : isGraph g
 ·exact ⟨_, rfl, rfl⟩
 ·obtain ⟨n, G, h1, h2, rfl, hG⟩ := isGraph_mat h
  simp only [Option.bind_some, Bool.not_true, Bool.false_eq_true, if_false, if_true, spec_zeLength, spec_l1In_eq, impl_within_eq]
  cases hm : inB 1 12 m
  ·exact ⟨_, rfl, rfl⟩
  ·obtain ⟨m1, m2⟩ := inB_iff.1 hm
   obtain ⟨k, rfl⟩ := Int.eq_ofNat_of_zero_le (show 0 ≤ m by omega)
   simp only [Bool.not_true, Bool.false_eq_true, if_false, Option.bind_some, spec_zeCycles_eq h2 hG (show 1 ≤ k by omega) (show k ≤ 12 by omega), impl_cycleCount_eq h2 hG (show 1 ≤ k by omega) (show k ≤ 12 by omega)]
   unfold zc
   by_cases hc : 1000000000 < cw n G k
   ·simp only [if_pos hc]
    exact ⟨_, rfl, rfl⟩
   ·simp only [if_neg hc]
    have hz : 0 ≤ Int.tdiv (cyN (cw n G) k) (k : Int) := Int.tdiv_nonneg (cyN_nonneg (fun i j hi hj => (hG i j hi hj).1) (by omega) (by omega)) (by omega)
    have : decide (Int.tdiv (cyN (cw n G) k) (k : Int) < 0) = false := by simp; omega
    rw [this]
    exact ⟨_, rfl, rfl⟩
end Go.PV

/-
 Plain laws: tables of numbers of cycles.
 Conditions: none.
-/
set_option linter.all false
namespace Go.PV
section
variable {n : Nat} {G : Nat → Nat → Int} (hn : n ≤ 8) (hG : ∀ i j, i < n → j < n → 0 ≤ G i j ∧ G i j ≤ 9)
include hn hG
def zT (n : Nat) (G : Nat → Nat → Int) (i : Nat) : Int := Int.tdiv (cyN (cw n G) (i + 1)) ((i + 1 : Nat) : Int)
end
end Go.PV

/-
 Plain laws: characteristic polynomials.
 Conditions: none.
-/
set_option linter.all false
namespace Go.PV
def mulW (n : Nat) (A M : Nat → Nat → Int) (i j : Nat) : Int := foldN n (fun s l => w64 (s + w64 (A i l * M l j))) 0
def trW (n : Nat) (P : Nat → Nat → Int) : Int := foldN n (fun s i => w64 (s + P i i)) 0
def addD (M : Nat → Nat → Int) (c : Int) (i j : Nat) : Int := if i = j then w64 (M i j + c) else M i j
section
variable {n : Nat} {A : Nat → Nat → Int}
theorem impl_cb4 (hn : n ≤ 8) {i j : Nat} (hi : i < n) (hj : j < n) (S N : Nat → Nat → Int) (X : List (List Int)) (t : Int) (Y : List (List Int)) :
  loopO (impl_characteristic_b4 (mat n n A) (mat n n S) (X, t, (i : Int)) (Y, (j : Int))) (mat n n N, 0) = some (mat n n (fun a b => if a = i ∧ b = j then foldN n (fun s l => w64 (s + w64 (A i l * S l j))) (N i j) else N a b)) := by
 have hx := loop_idx (body := impl_characteristic_b4 (mat n n A) (mat n n S) (X, t, (i : Int)) (Y, (j : Int))) n (fun l => (mat n n (fun a b => if a = i ∧ b = j then foldN l (fun s l => w64 (s + w64 (A i l * S l j))) (N i j) else N a b), (l : Int))) (mat n n (fun a b => if a = i ∧ b = j then foldN n (fun s l => w64 (s + w64 (A i l * S l j))) (N i j) else N a b)) (fun l hl => by
  simp only [impl_characteristic_b4, mat_len, idxO_mat hi, idxO_mat hl, idxO_tab hj, idxO_tab hl, Option.bind_some, w64_nat (show l < 9223372036854775807 by omega), show ((l : Int) < (n : Int)) from by omega, decide_true, if_true, Int.toNat_natCast, and_self]
  rw [mat_set2 hi hj]
  congr 3
  refine mat_ext fun a b _ _ => ?_
  by_cases ha : a = i
  ·subst ha
   by_cases hb : b = j
   ·subst hb; simp [foldN_succ]
   ·simp [hb]
  ·simp [ha]) (by
  simp only [impl_characteristic_b4, mat_len, Int.lt_irrefl, decide_false, Bool.false_eq_true, if_false])
 have e : (fun a b => if a = i ∧ b = j then foldN 0 (fun s l => w64 (s + w64 (A i l * S l j))) (N i j) else N a b) = N := by
  funext a b
  by_cases h : a = i ∧ b = j
  ·obtain ⟨rfl, rfl⟩ := h; simp [foldN_zero]
  ·rw [if_neg h]
 simp only [e] at hx
 exact hx
theorem impl_cb3 (hn : n ≤ 8) {i : Nat} (hi : i < n) (S N : Nat → Nat → Int) (X : List (List Int)) (t : Int) (h0 : ∀ b, N i b = 0) :
  loopO (impl_characteristic_b3 (mat n n A) (mat n n S) (X, t, (i : Int))) (mat n n N, 0) = some (mat n n (fun a b => if a = i then mulW n A S i b else N a b)) := by
 have hx := loop_idx (body := impl_characteristic_b3 (mat n n A) (mat n n S) (X, t, (i : Int))) n (fun j => (mat n n (fun a b => if a = i ∧ b < j then mulW n A S i b else N a b), (j : Int))) (mat n n (fun a b => if a = i then mulW n A S i b else N a b)) (fun j hj => by
  simp only [impl_characteristic_b3, mat_len, impl_cb4 hn hi hj, Option.bind_some, impl_characteristic_k7, w64_nat (show j < 9223372036854775807 by omega), show ((j : Int) < (n : Int)) from by omega, decide_true, if_true]
  congr 3
  refine mat_ext fun a b _ _ => ?_
  by_cases ha : a = i
  ·subst ha
   by_cases hb : b = j
   ·subst hb; simp [h0, mulW]
   ·by_cases h2 : b < j
    ·simp [hb, h2, show b < j + 1 by omega]
    ·simp [hb, h2, show ¬ b < j + 1 by omega]
  ·simp [ha]) (by
  simp only [impl_characteristic_b3, mat_len, Int.lt_irrefl, decide_false, Bool.false_eq_true, if_false]
  congr 2
  exact mat_ext fun a b _ hb => by simp [hb])
 simp only [Nat.not_lt_zero, and_false, if_false] at hx
 exact hx
theorem impl_cb2 (hn : n ≤ 8) (S : Nat → Nat → Int) :
  loopO (impl_characteristic_b2 (mat n n A) (mat n n S)) (mat n n (fun _ _ => 0), 0, 0) = some (mat n n (mulW n A S), trW n (mulW n A S)) := by
 have hx := loop_idx (body := impl_characteristic_b2 (mat n n A) (mat n n S)) n (fun i => (mat n n (fun a b => if a < i then mulW n A S a b else 0), foldN i (fun s i => w64 (s + mulW n A S i i)) 0, (i : Int))) (mat n n (mulW n A S), trW n (mulW n A S)) (fun i hi => by
  simp only [impl_characteristic_b2, mat_len, impl_cb3 hn hi S (fun a b => if a < i then mulW n A S a b else 0) _ _ (fun b => by simp), Option.bind_some, impl_characteristic_k6, impl_characteristic_k5, idxO_mat hi, idxO_tab hi, w64_nat (show i < 9223372036854775807 by omega), show ((i : Int) < (n : Int)) from by omega, decide_true, if_true, foldN_succ]
  congr 3
  refine mat_ext fun a b _ _ => ?_
  by_cases ha : a = i
  ·subst ha; simp
  ·by_cases h2 : a < i
   ·simp [ha, h2, show a < i + 1 by omega]
   ·simp [ha, h2, show ¬ a < i + 1 by omega]) (by
  simp only [impl_characteristic_b2, mat_len, Int.lt_irrefl, decide_false, Bool.false_eq_true, if_false]
  congr 3
  exact mat_ext fun a b ha _ => by simp [ha])
 simp only [Nat.not_lt_zero, if_false] at hx
 exact hx
theorem diag_step {i : Nat} (hi : i < n) (M : Nat → Nat → Int) (c : Int) : (mat n n (fun a b => if a < i then addD M c a b else M a b)).set i ((tab n (fun b => if i < i then addD M c i b else M i b)).set i (w64 (M i i + c))) = mat n n (fun a b => if a < i + 1 then addD M c a b else M a b) := by
 rw [mat_set2 hi hi]
 refine mat_ext fun a b _ _ => ?_
 by_cases ha : a = i
 ·subst ha
  by_cases hb : b = a
  ·subst hb; simp [addD]
  ·simp [hb, addD, Ne.symm hb]
 ·by_cases h2 : a < i
  ·simp [ha, h2, show a < i + 1 by omega]
  ·simp [ha, h2, show ¬ a < i + 1 by omega]
theorem impl_cb5 (hn : n ≤ 8) (M : Nat → Nat → Int) (cs : Nat → Int) {k : Nat} (hk : k + 1 ≤ n) :
  loopO (impl_characteristic_b5 (mat n n A) (tab (n + 1) cs, mat n n M, ((k + 1 : Nat) : Int))) (mat n n M, 0) = some (mat n n (addD M (cs (n - k)))) := by
 have e1 : w64 ((n : Int) - ((k + 1 : Nat) : Int)) = ((n - (k + 1) : Nat) : Int) := by rw [w64_id (by omega) (by omega)]; omega
 have e2 : w64 (((n - (k + 1) : Nat) : Int) + 1) = ((n - k : Nat) : Int) := by rw [w64_id (by omega) (by omega)]; omega
 have hx := loop_idx (body := impl_characteristic_b5 (mat n n A) (tab (n + 1) cs, mat n n M, ((k + 1 : Nat) : Int))) n (fun i => (mat n n (fun a b => if a < i then addD M (cs (n - k)) a b else M a b), (i : Int))) (mat n n (addD M (cs (n - k)))) (fun i hi => by
  simp only [impl_characteristic_b5, mat_len, e1, e2, idxO_mat hi, idxO_tab hi, idxO_tab (show n - k < n + 1 by omega), Option.bind_some, w64_nat (show i < 9223372036854775807 by omega), show ((i : Int) < (n : Int)) from by omega, decide_true, if_true, Int.toNat_natCast]
  congr 3
  have := diag_step hi M (cs (n - k))
  simp only [Nat.lt_irrefl, if_false] at this ⊢
  exact this) (by
  simp only [impl_characteristic_b5, mat_len, Int.lt_irrefl, decide_false, Bool.false_eq_true, if_false]
  congr 2
  exact mat_ext fun a b ha _ => by simp [ha])
 simp only [Nat.not_lt_zero, if_false] at hx
 exact hx
def chN (n : Nat) (A : Nat → Nat → Int) : Nat → (Nat → Int) × (Nat → Nat → Int)
 | 0 => (fun i => if i = n then 1 else 0, fun _ _ => 0)
 | k + 1 => (fun i => if i = n - (k + 1) then w64 (Int.tdiv (w64 (0 - trW n (mulW n A (addD (chN n A k).2 ((chN n A k).1 (n - k)))))) ((k + 1 : Nat) : Int)) else (chN n A k).1 i, mulW n A (addD (chN n A k).2 ((chN n A k).1 (n - k))))
theorem chN_top : ∀ k, k ≤ n → (chN n A k).1 n = 1
 | 0, _ => by simp [chN]
 | k + 1, h => by
  have ih := chN_top k (by omega)
  simp only [chN]
  rw [if_neg (by omega)]
  exact ih
theorem impl_char_eq (h1 : 1 ≤ n) (hn : n ≤ 8) : impl_characteristic (mat n n A) = some (tab (n + 1) (chN n A n).1) := by
 have hx := loop_idx (body := impl_characteristic_b1 (mat n n A)) n (fun k => (tab (n + 1) (chN n A k).1, mat n n (chN n A k).2, ((k + 1 : Nat) : Int))) (tab (n + 1) (chN n A n).1) (fun k hk => by
  have e1 : w64 ((n : Int) - ((k + 1 : Nat) : Int)) = ((n - (k + 1) : Nat) : Int) := by rw [w64_id (by omega) (by omega)]; omega
  simp only [impl_characteristic_b1, mat_len, show (((k + 1 : Nat) : Int) ≤ (n : Int)) from by omega, decide_true, if_true, impl_cb5 hn _ _ hk, Option.bind_some, impl_characteristic_k3, impl_emptyGraph_eq n (show n ≤ 1048576 by omega), impl_cb2 hn, impl_characteristic_k4]
  rw [guardO_bind_pos (by omega)]
  simp only [mat_len, e1, idxO_tab (show n - (k + 1) < n + 1 by omega), Option.bind_some, impl_characteristic_k2, Int.toNat_natCast, tab_set (show n - (k + 1) < n + 1 by omega), w64_nat (show k + 1 < 9223372036854775807 by omega)]
  rfl) (by
  simp only [impl_characteristic_b1, mat_len, show ¬ (((n + 1 : Nat) : Int) ≤ (n : Int)) from by omega, decide_false, Bool.false_eq_true, if_false])
 unfold impl_characteristic
 have e2 : w64 ((n : Int) + 1) = ((n + 1 : Nat) : Int) := by rw [w64_id (by omega) (by omega)]; omega
 rw [mat_len, e2, guardO_bind_pos (by omega), Int.toNat_natCast, rep_tab, idxO_tab (show n < n + 1 by omega), Option.bind_some, impl_emptyGraph_eq n (by omega), Option.bind_some, Int.toNat_natCast, tab_set (show n < n + 1 by omega)]
 have hx' : loopO (impl_characteristic_b1 (mat n n A)) (tab (n + 1) (fun k => if k = n then 1 else 0), mat n n (fun _ _ => 0), 1) = some (tab (n + 1) (chN n A n).1) := hx
 rw [hx']
 rfl
end
def isPoly (c : List Int) : Bool := decide ((c.length : Int) ≤ 9) && (c.all (inB (-1000000) 1000000))
theorem both_poly {n : Nat} {c : Nat → Int} (hn : n ≤ 8) (ht : c n = 1) : spec_poIf (tab (n + 1) c) = some (if isPoly (tab (n + 1) c) = true then (tab (n + 1) c, true) else ([], false)) ∧ impl_polynomial (tab (n + 1) c) = some (if isPoly (tab (n + 1) c) = true then (tab (n + 1) c, true) else ([], false)) := by
 have e1 : w64 (((n + 1 : Nat) : Int) - 1) = (n : Int) := by rw [w64_id (by omega) (by omega)]; omega
 have hlast : idxO (tab (n + 1) c) (n : Int) = some 1 := by rw [idxO_tab (by omega), ht]
 have hlen : (tab (n + 1) c).length ≤ 4611686018427387904 := by rw [tab_len]; omega
 have l1 : loopO spec_poTrim_b1 (tab (n + 1) c) = some (tab (n + 1) c) := by
  rw [loopO_eq]
  simp only [spec_poTrim_b1, tab_len, show (((n + 1 : Nat) : Int) > 0) from by omega, decide_true, if_true, e1, hlast, Option.bind_some]
  rfl
 have l2 : loopO impl_polynomial_b1 (tab (n + 1) c) = some (tab (n + 1) c) := by
  rw [loopO_eq]
  simp only [impl_polynomial_b1, tab_len, show (((n + 1 : Nat) : Int) > 0) from by omega, decide_true, if_true, e1, hlast, Option.bind_some]
  rfl
 have h9 : ¬ (((n + 1 : Nat) : Int) > 9) := by omega
 have h9' : (((n + 1 : Nat) : Int) ≤ 9) := by omega
 have h0 : (((n + 1 : Nat) : Int) == 0) = false := by simp; omega
 constructor
 ·unfold spec_poIf spec_poTrim
  rw [l1]
  simp only [Option.bind_some, spec_poTrim_k1, spec_l1Own]
  rw [guardO_bind_pos (by rw [tab_len]; omega)]
  simp only [Option.bind_some, spec_poGood, tab_len, h9, decide_false, Bool.false_eq_true, if_false, spec_l1All_eq _ _ _ hlen, h0, e1, hlast, isPoly, h9', decide_true, Bool.true_and]
  cases (tab (n + 1) c).all (inB (-1000000) 1000000) <;> rfl
 ·unfold impl_polynomial
  rw [l2]
  have hc := slices_ContainsFunc_Lint_int_eq (tab (n + 1) c) (fun x0 => impl_isPolynomial_1 x0) (fun x => !inB (-1000000) 1000000 x) (fun x => by simp [impl_isPolynomial_1, impl_within_eq]) hlen
  have hcl : slices_Clone_Lint_int (tab (n + 1) c) = some (tab (n + 1) c) := by
   unfold slices_Clone_Lint_int
   rw [guardO_bind_pos (by rw [tab_len]; omega)]
  simp only [Option.bind_some, impl_polynomial_k1, impl_isPolynomial, tab_len, h9', decide_true, if_true, hc, List.any_eq_not_all_not, Bool.not_not, h0, e1, hlast, hcl, isPoly, Bool.true_and]
  cases (tab (n + 1) c).all (inB (-1000000) 1000000) <;> rfl
end Go.PV

/-
 Plain laws: the coefficients of a characteristic polynomial, without words.
 Conditions: none.
-/
set_option linter.all false
namespace Go.PV
def mmN (n : Nat) (A M : Nat → Nat → Int) (i j : Nat) : Int := sm n fun l => A i l * M l j
def addI (M : Nat → Nat → Int) (c : Int) (i j : Nat) : Int := M i j + if i = j then c else 0
def faM (n : Nat) (A : Nat → Nat → Int) : Nat → Int × (Nat → Nat → Int)
 | 0 => (1, fun _ _ => 0)
 | k + 1 => (Int.tdiv (0 - tr n (mmN n A (addI (faM n A k).2 (faM n A k).1))) ((k + 1 : Nat) : Int), mmN n A (addI (faM n A k).2 (faM n A k).1))
def btk : Nat → Nat
 | 0 => 0
 | 1 => 9
 | k + 2 => 72 * (btk (k + 1) + 8 * btk (k + 1) / (k + 1))
theorem btk_ok : ∀ k, k ≤ 8 → 8 * btk k ≤ 9000000000000000000 ∧ 72 * (btk k + 8 * btk k / k) ≤ 9000000000000000000 ∨ k = 8 ∧ 8 * btk k ≤ 9000000000000000000 := by decide
theorem btk_le : ∀ k, k ≤ 8 → 8 * btk k ≤ 9000000000000000000 := fun k hk => by
 rcases btk_ok k hk with h | h
 ·exact h.1
 ·exact h.2
theorem btk_next {k : Nat} (hk : k < 8) : 72 * (btk k + 8 * btk k / k) ≤ 9000000000000000000 := by
 rcases btk_ok k (by omega) with h | h
 ·exact h.2
 ·omega
section
variable {n : Nat} {A : Nat → Nat → Int}
theorem mulW_eq (hn : n ≤ 8) (hA : ∀ i j, i < n → j < n → 0 ≤ A i j ∧ A i j ≤ 9) {M : Nat → Nat → Int} {B : Int} (hB : 72 * B ≤ 9000000000000000000) (hM : ∀ i j, i < n → j < n → -B ≤ M i j ∧ M i j ≤ B) {i j : Nat} (hi : i < n) (hj : j < n) :
  mulW n A M i j = mmN n A M i j ∧ -(72 * B) ≤ mmN n A M i j ∧ mmN n A M i j ≤ 72 * B := by
 have hB0 : 0 ≤ B := by have := hM i j hi hj; omega
 have term : ∀ l, l < n → -(9 * B) ≤ A i l * M l j ∧ A i l * M l j ≤ 9 * B := fun l hl => by
  obtain ⟨a0, a9⟩ := hA i l hi hl
  obtain ⟨m0, m1⟩ := hM l j hl hj
  have h1 := Int.mul_le_mul_of_nonneg_left m1 a0
  have h2 := Int.mul_le_mul_of_nonneg_left m0 a0
  have h3 := Int.mul_le_mul_of_nonneg_right a9 hB0
  have h4 : A i l * -B = -(A i l * B) := by rw [Int.mul_neg]
  omega
 have key : ∀ k, k ≤ n → foldN k (fun s l => w64 (s + w64 (A i l * M l j))) 0 = sm k (fun l => A i l * M l j) ∧ -(9 * B * k) ≤ sm k (fun l => A i l * M l j) ∧ sm k (fun l => A i l * M l j) ≤ 9 * B * k := by
  intro k
  induction k with
  | zero => intro _; simp [foldN_zero, sm_zero]
  | succ k ih =>
   intro hk
   obtain ⟨e, b1, b2⟩ := ih (by omega)
   obtain ⟨t1, t2⟩ := term k (by omega)
   have hk8 : 9 * B * ((k + 1 : Nat) : Int) ≤ 72 * B := by
    have : 9 * B * ((k + 1 : Nat) : Int) ≤ 9 * B * 8 := Int.mul_le_mul_of_nonneg_left (by omega) (by omega)
    omega
   have e1 : 9 * B * ((k + 1 : Nat) : Int) = 9 * B * (k : Int) + 9 * B := by rw [show ((k + 1 : Nat) : Int) = (k : Int) + 1 by omega, Int.mul_add, Int.mul_one]
   rw [foldN_succ, sm_succ, e]
   rw [w64_id (n := A i k * M k j) (by omega) (by omega), w64_id (by omega) (by omega)]
   exact ⟨rfl, by omega, by omega⟩
 obtain ⟨e, b1, b2⟩ := key n (Nat.le_refl n)
 have h72 : 9 * B * (n : Int) ≤ 72 * B := by
  have : 9 * B * (n : Int) ≤ 9 * B * 8 := Int.mul_le_mul_of_nonneg_left (by omega) (by omega)
  omega
 exact ⟨e, by unfold mmN; omega, by unfold mmN; omega⟩
theorem trW_eq (hn : n ≤ 8) {M : Nat → Nat → Int} {B : Int} (hB : 8 * B ≤ 9000000000000000000) (hM : ∀ i j, i < n → j < n → -B ≤ M i j ∧ M i j ≤ B) (h1 : 1 ≤ n) : trW n M = tr n M ∧ -(8 * B) ≤ tr n M ∧ tr n M ≤ 8 * B := by
 have hB0 : 0 ≤ B := by have := hM 0 0 h1 h1; omega
 have key : ∀ k, k ≤ n → foldN k (fun s i => w64 (s + M i i)) 0 = sm k (fun i => M i i) ∧ -(B * k) ≤ sm k (fun i => M i i) ∧ sm k (fun i => M i i) ≤ B * k := by
  intro k
  induction k with
  | zero => intro _; simp [foldN_zero, sm_zero]
  | succ k ih =>
   intro hk
   obtain ⟨e, b1, b2⟩ := ih (by omega)
   obtain ⟨t1, t2⟩ := hM k k (by omega) (by omega)
   have hk8 : B * ((k + 1 : Nat) : Int) ≤ 8 * B := by
    have : B * ((k + 1 : Nat) : Int) ≤ B * 8 := Int.mul_le_mul_of_nonneg_left (by omega) hB0
    omega
   have e1 : B * ((k + 1 : Nat) : Int) = B * (k : Int) + B := by rw [show ((k + 1 : Nat) : Int) = (k : Int) + 1 by omega, Int.mul_add, Int.mul_one]
   rw [foldN_succ, sm_succ, e, w64_id (by omega) (by omega)]
   exact ⟨rfl, by omega, by omega⟩
 obtain ⟨e, b1, b2⟩ := key n (Nat.le_refl n)
 have h72 : B * (n : Int) ≤ 8 * B := by
  have : B * (n : Int) ≤ B * 8 := Int.mul_le_mul_of_nonneg_left (by omega) hB0
  omega
 exact ⟨e, by unfold tr; omega, by unfold tr; omega⟩
theorem tdiv_bd {x : Int} {B k : Nat} (h0 : -(B : Int) ≤ x) (h1 : x ≤ B) (hk : 1 ≤ k) : -((B / k : Nat) : Int) ≤ Int.tdiv x (k : Int) ∧ Int.tdiv x (k : Int) ≤ ((B / k : Nat) : Int) := by
 have h : (Int.tdiv x (k : Int)).natAbs = x.natAbs / k := by rw [Int.natAbs_tdiv]; rfl
 have h2 : x.natAbs / k ≤ B / k := Nat.div_le_div_right (by omega)
 omega
theorem mmN_ext {M M' : Nat → Nat → Int} {i j : Nat} (h : ∀ l, l < n → M l j = M' l j) : mmN n A M i j = mmN n A M' i j := sm_ext fun l hl => by rw [h l hl]
theorem mulW_ext {M M' : Nat → Nat → Int} {i j : Nat} (h : ∀ l, l < n → M l j = M' l j) : mulW n A M i j = mulW n A M' i j := foldN_ext fun b l hl => by rw [h l hl]
theorem chN_fa (h1 : 1 ≤ n) (hn : n ≤ 8) (hA : ∀ i j, i < n → j < n → 0 ≤ A i j ∧ A i j ≤ 9) : ∀ k, k ≤ n →
  (∀ i j, i < n → j < n → (chN n A k).2 i j = (faM n A k).2 i j ∧ -(btk k : Int) ≤ (faM n A k).2 i j ∧ (faM n A k).2 i j ≤ btk k) ∧ (∀ j, j ≤ k → (chN n A k).1 (n - j) = (faM n A j).1) ∧ (1 ≤ k → -((8 * btk k / k : Nat) : Int) ≤ (faM n A k).1 ∧ (faM n A k).1 ≤ ((8 * btk k / k : Nat) : Int)) := by
 intro k
 induction k with
 | zero => exact fun _ => ⟨fun i j _ _ => by simp [chN, faM, btk], fun j hj => by
   obtain rfl : j = 0 := by omega
   simp [chN, faM], fun h => by omega⟩
 | succ k ih =>
  intro hk
  obtain ⟨ih1, ih2, ih3⟩ := ih (by omega)
  have hc : (chN n A k).1 (n - k) = (faM n A k).1 := ih2 k (Nat.le_refl k)
  -- the table to be multiplied
  have hH : ∃ B : Nat, 72 * (B : Int) ≤ 9000000000000000000 ∧ (1 ≤ k → 72 * B = btk (k + 1)) ∧ (∀ i j, i < n → j < n → -(B : Int) ≤ addI (faM n A k).2 (faM n A k).1 i j ∧ addI (faM n A k).2 (faM n A k).1 i j ≤ B) ∧ ∀ i j, i < n → j < n → addD (chN n A k).2 ((chN n A k).1 (n - k)) i j = addI (faM n A k).2 (faM n A k).1 i j := by
   by_cases hk0 : k = 0
   ·subst hk0
    refine ⟨1, by decide, fun h => by omega, fun i j _ _ => ?_, fun i j _ _ => ?_⟩
    ·simp only [addI, faM]; split <;> omega
    ·simp only [addD, addI, chN, faM, Nat.sub_zero, if_true]
     split <;> rfl
   ·obtain ⟨c1, c2⟩ := ih3 (by omega)
    have hb := btk_next (k := k) (by omega)
    have hadd : ∀ i j, i < n → j < n → -((btk k + 8 * btk k / k : Nat) : Int) ≤ addI (faM n A k).2 (faM n A k).1 i j ∧ addI (faM n A k).2 (faM n A k).1 i j ≤ ((btk k + 8 * btk k / k : Nat) : Int) := fun i j hi hj => by
     obtain ⟨_, b1, b2⟩ := ih1 i j hi hj
     simp only [addI]
     split <;> omega
    refine ⟨btk k + 8 * btk k / k, by omega, fun _ => ?_, hadd, fun i j hi hj => ?_⟩
    ·obtain ⟨m, rfl⟩ : ∃ m, k = m + 1 := ⟨k - 1, by omega⟩
     rfl
    ·obtain ⟨e, b1, b2⟩ := ih1 i j hi hj
     have := hadd i j hi hj
     simp only [addD, addI, hc, e] at this ⊢
     split
     ·rename_i hij
      rw [if_pos hij] at this
      rw [w64_id (by omega) (by omega)]
     ·omega
  obtain ⟨B, hB, hBk, hHb, hHe⟩ := hH
  have hmul : ∀ i j, i < n → j < n → (chN n A (k + 1)).2 i j = (faM n A (k + 1)).2 i j ∧ -(btk (k + 1) : Int) ≤ (faM n A (k + 1)).2 i j ∧ (faM n A (k + 1)).2 i j ≤ btk (k + 1) := by
   intro i j hi hj
   have e1 : (chN n A (k + 1)).2 i j = mulW n A (addI (faM n A k).2 (faM n A k).1) i j := by
    show mulW n A (addD (chN n A k).2 ((chN n A k).1 (n - k))) i j = _
    exact mulW_ext fun l hl => hHe l j hl hj
   obtain ⟨e2, b1, b2⟩ := mulW_eq hn hA hB hHb hi hj
   have e3 : (faM n A (k + 1)).2 i j = mmN n A (addI (faM n A k).2 (faM n A k).1) i j := rfl
   refine ⟨by rw [e1, e2, e3], ?_⟩
   by_cases hk0 : k = 0
   ·subst hk0
    have : (faM n A 1).2 i j = A i j := by
     show mmN n A (addI (fun _ _ => 0) 1) i j = A i j
     unfold mmN addI
     rw [sm_ext (g := fun l => if l = j then A i l else 0) fun l _ => by by_cases h : l = j <;> simp [h], sm_delta hj]
    rw [this]
    have := hA i j hi hj
    show -((9 : Nat) : Int) ≤ _ ∧ _ ≤ ((9 : Nat) : Int)
    omega
   ·have := hBk (by omega)
    rw [e3, ← this]
    omega
  have htr := trW_eq hn (M := (faM n A (k + 1)).2) (B := (btk (k + 1) : Int)) (by have := btk_le (k + 1) (by omega); omega) (fun i j hi hj => (hmul i j hi hj).2) h1
  have htw : trW n (mulW n A (addD (chN n A k).2 ((chN n A k).1 (n - k)))) = trW n (faM n A (k + 1)).2 := foldN_ext fun b i hi => by
   have := (hmul i i hi hi).1
   have e : (chN n A (k + 1)).2 i i = mulW n A (addD (chN n A k).2 ((chN n A k).1 (n - k))) i i := rfl
   rw [← e, this]
  have hb8 := btk_le (k + 1) (by omega)
  have hd := tdiv_bd (x := 0 - tr n (faM n A (k + 1)).2) (B := 8 * btk (k + 1)) (k := k + 1) (by omega) (by omega) (by omega)
  have hq : 8 * btk (k + 1) / (k + 1) ≤ 8 * btk (k + 1) := Nat.div_le_self _ _
  have hnew : (chN n A (k + 1)).1 (n - (k + 1)) = (faM n A (k + 1)).1 := by
   show (if n - (k + 1) = n - (k + 1) then w64 (Int.tdiv (w64 (0 - trW n (mulW n A (addD (chN n A k).2 ((chN n A k).1 (n - k)))))) ((k + 1 : Nat) : Int)) else _) = Int.tdiv (0 - tr n (faM n A (k + 1)).2) ((k + 1 : Nat) : Int)
   rw [if_pos rfl, htw, htr.1, w64_id (n := 0 - tr n (faM n A (k + 1)).2) (by omega) (by omega), w64_id (by omega) (by omega)]
  refine ⟨hmul, fun j hj => ?_, fun _ => hd⟩
  by_cases hjk : j = k + 1
  ·subst hjk; exact hnew
  ·show (if n - j = n - (k + 1) then _ else (chN n A k).1 (n - j)) = _
   rw [if_neg (by omega)]
   exact ih2 j (by omega)
theorem ch_fa (h1 : 1 ≤ n) (hn : n ≤ 8) (hA : ∀ i j, i < n → j < n → 0 ≤ A i j ∧ A i j ≤ 9) : tab (n + 1) (chN n A n).1 = tab (n + 1) fun i => (faM n A (n - i)).1 := tab_ext fun i hi => by
 have := (chN_fa h1 hn hA n (Nat.le_refl n)).2.1 (n - i) (by omega)
 rw [show n - (n - i) = i by omega] at this
 exact this
end
end Go.PV

/-
 Plain laws: the characteristic polynomial of a companion table, and of a table without closed walks.
 Conditions: none.
-/
set_option linter.all false
namespace Go.PV
def cmpM (n : Nat) (p : Nat → Int) (i j : Nat) : Int := if i + 1 < n then (if j = i + 1 then 1 else 0) else -p j
def hcM (n : Nat) (p : Nat → Int) (k i j : Nat) : Int :=
 if i + k < n then (if i ≤ j ∧ j ≤ i + k then p (n - k + (j - i)) else 0) else (if i + k - n ≤ j ∧ j < i then -p (n - k - (i - j)) else 0)
section
variable {n : Nat} {p : Nat → Int}
theorem hcM_comm (hp : p n = 1) {k i j : Nat} (hk : k < n) (hi : i < n) (hj : j < n) :
  hcM n p (k + 1) i j = (if 1 ≤ j then hcM n p k i (j - 1) else 0) - hcM n p k i (n - 1) * p j + if i = j then p (n - k - 1) else 0 := by
 by_cases h1 : i + k + 1 < n
 ·-- not yet at the last column
  have e0 : hcM n p k i (n - 1) = 0 := by
   unfold hcM
   rw [if_pos (by omega), if_neg (by omega)]
  rw [e0, Int.zero_mul, Int.sub_zero]
  unfold hcM
  rw [if_pos (show i + (k + 1) < n by omega), if_pos (show i + k < n by omega)]
  by_cases h2 : i = j
  ·subst h2
   rw [if_pos rfl, if_pos (by omega)]
   have : (if 1 ≤ i then (if i ≤ i - 1 ∧ i - 1 ≤ i + k then p (n - k + (i - 1 - i)) else 0) else 0) = 0 := by
    split
    ·rw [if_neg (by omega)]
    ·rfl
   rw [this, Int.zero_add]
   congr 1; omega
  ·rw [if_neg h2, Int.add_zero]
   by_cases h3 : i ≤ j ∧ j ≤ i + (k + 1)
   ·rw [if_pos h3, if_pos (by omega), if_pos (by omega)]
    congr 1; omega
   ·rw [if_neg h3]
    split
    ·rw [if_neg (by omega)]
    ·rfl
 ·by_cases h2 : i + k + 1 = n
  ·have e0 : hcM n p k i (n - 1) = 1 := by
    unfold hcM
    rw [if_pos (by omega), if_pos (by omega), ← hp]
    congr 1; omega
   rw [e0, Int.one_mul]
   unfold hcM
   rw [if_neg (show ¬ i + (k + 1) < n by omega), if_pos (show i + k < n by omega)]
   by_cases h3 : j < i
   ·rw [if_pos (by omega), if_neg (show ¬ i = j by omega)]
    have : (if 1 ≤ j then (if i ≤ j - 1 ∧ j - 1 ≤ i + k then p (n - k + (j - 1 - i)) else 0) else 0) = 0 := by
     split
     ·rw [if_neg (by omega)]
     ·rfl
    rw [this, show n - (k + 1) - (i - j) = j by omega]
    omega
   ·rw [if_neg (by omega)]
    by_cases h4 : i = j
    ·subst h4
     have : (if 1 ≤ i then (if i ≤ i - 1 ∧ i - 1 ≤ i + k then p (n - k + (i - 1 - i)) else 0) else 0) = 0 := by
      split
      ·rw [if_neg (by omega)]
      ·rfl
     rw [this, if_pos rfl, show n - k - 1 = i by omega]
     omega
    ·rw [if_neg h4, if_pos (by omega), if_pos (by omega), show n - k + (j - 1 - i) = j by omega]
     omega
  ·have e0 : hcM n p k i (n - 1) = 0 := by
    unfold hcM
    rw [if_neg (by omega), if_neg (by omega)]
   rw [e0, Int.zero_mul, Int.sub_zero]
   unfold hcM
   rw [if_neg (show ¬ i + (k + 1) < n by omega), if_neg (show ¬ i + k < n by omega)]
   by_cases h3 : i = j
   ·subst h3
    rw [if_pos rfl, if_neg (by omega), if_pos (by omega), if_pos (by omega), show n - k - (i - (i - 1)) = n - k - 1 by omega]
    omega
   ·rw [if_neg h3, Int.add_zero]
    by_cases h4 : i + (k + 1) - n ≤ j ∧ j < i
    ·rw [if_pos h4, if_pos (by omega), if_pos (by omega)]
     congr 2; omega
    ·rw [if_neg h4]
     split
     ·rw [if_neg (by omega)]
     ·rfl
theorem hcM_dot (hp : p n = 1) : ∀ (k : Nat), k ≤ n → ∀ j, j < n → sm n (fun l => p l * hcM n p k l j) = if k ≤ j then p (j - k) else 0
 | 0, _, j, hj => by
  rw [sm_ext (g := fun l => if l = j then p l else 0) fun l hl => by
   unfold hcM
   rw [if_pos (by omega)]
   by_cases h : l = j
   ·subst h; rw [if_pos (by omega), if_pos rfl, show n - 0 + (l - l) = n by omega, hp, Int.mul_one]
   ·rw [if_neg (by omega), if_neg h, Int.mul_zero], sm_delta hj, if_pos (by omega)]
  rfl
 | k + 1, hk, j, hj => by
  have ih := hcM_dot hp k (by omega)
  rw [sm_ext (g := fun l => (p l * (if 1 ≤ j then hcM n p k l (j - 1) else 0) - p l * hcM n p k l (n - 1) * p j) + if l = j then p l * p (n - k - 1) else 0) fun l hl => by
   rw [hcM_comm hp (by omega) hl hj]
   rw [Int.mul_add, Int.mul_sub, Int.mul_assoc]
   congr 1
   split <;> simp]
  rw [sm_add, sm_sub, sm_mul', ih (n - 1) (by omega), if_pos (by omega), sm_delta hj]
  by_cases h1 : 1 ≤ j
  ·rw [sm_ext (g := fun l => p l * hcM n p k l (j - 1)) fun l _ => by rw [if_pos h1], ih (j - 1) (by omega)]
   rw [show n - 1 - k = n - k - 1 by omega, Int.mul_comm (p j)]
   by_cases h2 : k + 1 ≤ j
   ·rw [if_pos (by omega), if_pos h2, show j - 1 - k = j - (k + 1) by omega]; omega
   ·rw [if_neg (by omega), if_neg h2]; omega
  ·rw [sm_ext (g := fun _ => 0) fun l _ => by rw [if_neg h1, Int.mul_zero], sm_zeros, if_neg (by omega)]
   rw [show n - 1 - k = n - k - 1 by omega, Int.mul_comm (p j)]
   omega
theorem hcM_step (hp : p n = 1) {k i j : Nat} (hk : k < n) (hi : i < n) (hj : j < n) : mmN n (cmpM n p) (hcM n p k) i j = hcM n p (k + 1) i j - if i = j then p (n - k - 1) else 0 := by
 unfold mmN
 by_cases h : i + 1 < n
 ·rw [sm_ext (g := fun l => if l = i + 1 then hcM n p k l j else 0) fun l _ => by
   unfold cmpM
   rw [if_pos h]
   by_cases h2 : l = i + 1 <;> simp [h2], sm_delta h]
  unfold hcM
  by_cases h1 : i + 1 + k < n
  ·rw [if_pos h1, if_pos (show i + (k + 1) < n by omega)]
   by_cases h3 : i = j
   ·subst h3
    rw [if_pos rfl, if_neg (by omega), if_pos (by omega), show n - (k + 1) + (i - i) = n - k - 1 by omega]
    omega
   ·rw [if_neg h3, Int.sub_zero]
    by_cases h4 : i + 1 ≤ j ∧ j ≤ i + 1 + k
    ·rw [if_pos h4, if_pos (by omega)]; congr 1; omega
    ·rw [if_neg h4, if_neg (by omega)]
  ·rw [if_neg h1, if_neg (show ¬ i + (k + 1) < n by omega)]
   by_cases h3 : i = j
   ·subst h3
    rw [if_pos rfl, if_pos (by omega), if_neg (by omega), show n - k - (i + 1 - i) = n - k - 1 by omega]
    omega
   ·rw [if_neg h3, Int.sub_zero]
    by_cases h4 : i + 1 + k - n ≤ j ∧ j < i + 1
    ·rw [if_pos h4, if_pos (by omega)]; congr 2; omega
    ·rw [if_neg h4, if_neg (by omega)]
 ·have hin : i = n - 1 := by omega
  rw [sm_ext (g := fun l => -1 * (p l * hcM n p k l j)) fun l _ => by
   unfold cmpM
   rw [if_neg h, Int.neg_mul]; omega, sm_mul, hcM_dot hp k (by omega) j hj]
  unfold hcM
  rw [if_neg (show ¬ i + (k + 1) < n by omega)]
  by_cases h3 : i = j
  ·subst h3
   rw [if_pos rfl, if_pos (by omega), if_neg (by omega), show n - k - 1 = i - k by omega]
   omega
  ·rw [if_neg h3, Int.sub_zero]
   by_cases h4 : k ≤ j
   ·rw [if_pos h4, if_pos (by omega), show n - (k + 1) - (i - j) = j - k by omega]
    omega
   ·rw [if_neg h4, if_neg (by omega)]
    omega
theorem sm_count {n k : Nat} (hk : k ≤ n) (c : Int) : sm n (fun i => if n ≤ i + k then c else 0) = (k : Int) * c := by
 have key : ∀ m, m ≤ n → sm m (fun i => if n ≤ i + k then c else 0) = ((m + k - n : Nat) : Int) * c := by
  intro m
  induction m with
  | zero => intro _; rw [sm_zero, show 0 + k - n = 0 by omega]; simp
  | succ m ih =>
   intro hm
   rw [sm_succ, ih (by omega)]
   by_cases h : n ≤ m + k
   ·rw [if_pos h, show ((m + 1 + k - n : Nat) : Int) = ((m + k - n : Nat) : Int) + 1 by omega, Int.add_mul, Int.one_mul]
   ·rw [if_neg h, show m + 1 + k - n = 0 by omega, show m + k - n = 0 by omega]; simp
 rw [key n (Nat.le_refl n), show n + k - n = k by omega]
theorem fa_comp (h1 : 1 ≤ n) (hp : p n = 1) : ∀ k, k ≤ n → (faM n (cmpM n p) k).1 = p (n - k) ∧ ∀ i j, i < n → j < n → addI (faM n (cmpM n p) k).2 (faM n (cmpM n p) k).1 i j = hcM n p k i j
 | 0, _ => ⟨by simp [faM, hp], fun i j hi hj => by
   simp only [addI, faM, hcM, Int.zero_add]
   rw [if_pos (show i + 0 < n by omega)]
   by_cases h : i = j
   ·subst h; rw [if_pos rfl, if_pos (by omega), show n - 0 + (i - i) = n by omega, hp]
   ·rw [if_neg h, if_neg (by omega)]⟩
 | k + 1, hk => by
  obtain ⟨ih1, ih2⟩ := fa_comp h1 hp k (by omega)
  have hm : ∀ i j, i < n → j < n → (faM n (cmpM n p) (k + 1)).2 i j = hcM n p (k + 1) i j - if i = j then p (n - k - 1) else 0 := fun i j hi hj => by
   show mmN n (cmpM n p) (addI (faM n (cmpM n p) k).2 (faM n (cmpM n p) k).1) i j = _
   rw [mmN_ext (M' := hcM n p k) fun l hl => ih2 l j hl hj, hcM_step hp (by omega) hi hj]
  have htr : tr n (faM n (cmpM n p) (k + 1)).2 = ((k + 1 : Nat) : Int) * -p (n - k - 1) := by
   unfold tr
   rw [← sm_count hk, sm_ext fun i hi => ?_]
   rw [hm i i hi hi, if_pos rfl]
   unfold hcM
   by_cases h : i + (k + 1) < n
   ·rw [if_pos h, if_pos (by omega), if_neg (by omega), show n - (k + 1) + (i - i) = n - k - 1 by omega]; omega
   ·rw [if_neg h, if_neg (by omega), if_pos (by omega)]; omega
  have hc : (faM n (cmpM n p) (k + 1)).1 = p (n - (k + 1)) := by
   show Int.tdiv (0 - tr n (faM n (cmpM n p) (k + 1)).2) ((k + 1 : Nat) : Int) = _
   rw [htr, Int.mul_neg, Int.zero_sub, Int.neg_neg, Int.mul_tdiv_cancel_left _ (by omega)]
   congr 1
  refine ⟨hc, fun i j hi hj => ?_⟩
  unfold addI
  rw [hm i j hi hj, hc, show n - (k + 1) = n - k - 1 by omega]
  split <;> omega
theorem fa_nil {A : Nat → Nat → Int} (h : ∀ d, 1 ≤ d → cw n A d = 0) : ∀ k, 1 ≤ k → (faM n A k).1 = 0 ∧ ∀ i j, i < n → j < n → (faM n A k).2 i j = pw n A k i j := by
 intro k
 induction k with
 | zero => intro h; omega
 | succ k ih =>
  intro _
  have hm : ∀ i j, i < n → j < n → (faM n A (k + 1)).2 i j = pw n A (k + 1) i j := by
   intro i j hi hj
   rw [Nat.add_comm k 1, pw_add 1 hi k j hj, Nat.add_comm 1 k]
   show mmN n A (addI (faM n A k).2 (faM n A k).1) i j = _
   unfold mmN
   refine sm_ext fun l hl => ?_
   rw [pw_one hi]
   congr 1
   by_cases hk : k = 0
   ·subst hk; simp [addI, faM, pw]
   ·obtain ⟨c, d⟩ := ih (by omega)
    simp [addI, c, d l j hl hj]
  refine ⟨?_, hm⟩
  have ht : tr n (faM n A (k + 1)).2 = 0 := by
   rw [← h (k + 1) (by omega)]
   exact sm_ext fun i hi => hm i i hi hi
  show Int.tdiv (0 - tr n (faM n A (k + 1)).2) ((k + 1 : Nat) : Int) = 0
  rw [ht]; simp
end
end Go.PV

/-
 Plain laws: greatest divisors, fractions, floors, fractions reduced.
 Conditions: none.
-/
namespace Go.PV
def isRat (r : Int × Int) : Bool := inB 1 1000000000 r.2 && (inB (-1000000000) 1000000000 r.1 && (Int.gcd r.1 r.2 : Int) == 1)
theorem isRat_iff {r : Int × Int} : isRat r = true ↔ 1 ≤ r.2 ∧ r.2 ≤ 1000000000 ∧ -1000000000 ≤ r.1 ∧ r.1 ≤ 1000000000 ∧ Int.gcd r.1 r.2 = 1 := by
 simp only [isRat, Bool.and_eq_true, inB_iff, beq_iff_eq]
 constructor
 ·rintro ⟨⟨h1, h2⟩, ⟨h3, h4⟩, h5⟩; exact ⟨h1, h2, h3, h4, by omega⟩
 ·rintro ⟨h1, h2, h3, h4, h5⟩; exact ⟨⟨h1, h2⟩, ⟨h3, h4⟩, by omega⟩
def lowest (n d : Int) : (Int × Int) × Bool :=
 let g := if d < 0 then -(Int.gcd n d : Int) else Int.gcd n d
 if isRat (Int.tdiv n g, Int.tdiv d g) then ((Int.tdiv n g, Int.tdiv d g), true) else ((0, 0), false)
def near (r : Int × Int) : Bool := isRat r && inB (-1000 * r.2) (1000 * r.2) r.1
def cmp (a b : Int × Int) : Int := if a.1 * b.2 < b.1 * a.2 then -1 else if a.1 * b.2 > b.1 * a.2 then 1 else 0
def tame (r : Int × Int) : Prop := -1000000000 ≤ r.1 ∧ r.1 ≤ 1000000000 ∧ -1000000000 ≤ r.2 ∧ r.2 ≤ 1000000000
def less (a b : Int × Int) : Bool := decide (a.1 * b.2 < b.1 * a.2)
def floorDiv (n d : Int) : Int := if Int.tmod n d < 0 then Int.tdiv n d - 1 else Int.tdiv n d
theorem tdiv_bound (n d : Int) : (Int.tdiv n d).natAbs ≤ n.natAbs := by rw [Int.natAbs_tdiv]; exact Nat.div_le_self _ _
def reduceRat (r : Int × Int) : (Int × Int) × Bool := if near r then ((r.1 - floorDiv r.1 r.2 * r.2, r.2), true) else ((0, 0), false)
end Go.PV

set_option linter.all false
namespace Go.PV
abbrev Pt := (Int × Int) × (Int × Int)
def zP : Pt := ((0, 0), (0, 0))
def isUnit (r : Int × Int) : Bool := isRat r && inB 0 r.2 r.1
def coord (r : Int × Int) : Bool := isUnit r && decide (r.2 ≤ 100)
theorem coord_rat {r : Int × Int} (h : coord r = true) : isRat r = true := by
 simp only [coord, isUnit, Bool.and_eq_true] at h
 exact h.1.1
def goodPt (p : Pt) : Bool := coord p.1 && (isRat p.2 && (decide (p.2.2 ≤ 100) && inB (-5 * p.2.2) (5 * p.2.2) p.2.1))
def stepPt (a b : Pt) : Bool := less a.1 b.1 && !less b.2 a.2
def steps (xs : List Pt) (n : Nat) : Prop := ∀ i a b, 0 < i → i < n → xs[i - 1]? = some a → xs[i]? = some b → stepPt a b = true
def ends (xs : List Pt) : Bool := match xs[0]?, xs[xs.length - 1]? with
 | some a, some b => (a.1 == (0, 1)) && ((b.1 == (1, 1)) && (b.2 == (a.2.1 + a.2.2, a.2.2)))
 | _, _ => false
open Classical in
noncomputable def isLift (xs : List Pt) : Bool := inB 2 12 xs.length && (decide (xs.all goodPt = true ∧ steps xs xs.length) && ends xs)
end Go.PV

set_option linter.all false
namespace Go.PV
theorem lowest_isRat {n d : Int} (h1 : 0 ≤ n) (h2 : n ≤ 1000000000) (h3 : 1 ≤ d) (h4 : d ≤ 1000000000) : isRat (lowest n d).1 = true := by
 have hg : 0 < Int.gcd n d := Int.gcd_pos_of_ne_zero_right _ (by omega)
 have key : isRat (Int.tdiv n (Int.gcd n d : Int), Int.tdiv d (Int.gcd n d : Int)) = true := by
  obtain ⟨a, rfl⟩ := Int.eq_ofNat_of_zero_le h1
  obtain ⟨b, rfl⟩ := Int.eq_ofNat_of_zero_le (show 0 ≤ d by omega)
  have e : Int.gcd (a : Int) (b : Int) = Nat.gcd a b := rfl
  rw [e] at hg ⊢
  have e1 : Int.tdiv (a : Int) ((Nat.gcd a b : Nat) : Int) = ((a / Nat.gcd a b : Nat) : Int) := by rw [Int.tdiv_eq_ediv_of_nonneg (by omega)]; rfl
  have e2 : Int.tdiv (b : Int) ((Nat.gcd a b : Nat) : Int) = ((b / Nat.gcd a b : Nat) : Int) := by rw [Int.tdiv_eq_ediv_of_nonneg (by omega)]; rfl
  rw [e1, e2, isRat_iff]
  have l1 : a / Nat.gcd a b ≤ a := Nat.div_le_self _ _
  have l2 : b / Nat.gcd a b ≤ b := Nat.div_le_self _ _
  have l3 : 0 < b / Nat.gcd a b := Nat.div_pos (Nat.le_of_dvd (by omega) (Nat.gcd_dvd_right a b)) hg
  have l4 : ((a / Nat.gcd a b : Nat) : Int) ≤ 1000000000 := by omega
  have l5 : ((b / Nat.gcd a b : Nat) : Int) ≤ 1000000000 := by omega
  have l6 : 1 ≤ ((b / Nat.gcd a b : Nat) : Int) := by omega
  have l7 : 0 ≤ ((a / Nat.gcd a b : Nat) : Int) := Int.natCast_nonneg _
  generalize hA : ((a / Nat.gcd a b : Nat) : Int) = A at l4 l7 ⊢
  generalize hB : ((b / Nat.gcd a b : Nat) : Int) = B at l5 l6 ⊢
  refine ⟨l6, l5, by show -1000000000 ≤ A; omega, l4, ?_⟩
  rw [← hA, ← hB]
  exact Nat.coprime_div_gcd_div_gcd hg
 have hdn : ¬ d < 0 := by omega
 unfold lowest
 simp only [if_neg hdn]
 rw [if_pos key]
 exact key
def dotN (G : Nat → Int) (v : Nat → Int) (n : Nat) : Int := foldN n (fun s j => s + G j * v j) 0
end Go.PV

set_option linter.all false
namespace Go.PV
def minStep (a b : Int × Int) : Int × Int := if less b a = true then b else a
def maxStep (a b : Int × Int) : Int × Int := if less a b = true then b else a
def mnN (r : Nat → Int × Int) (i : Nat) : Int × Int := foldN i (fun s j => minStep s (r j)) (r 0)
def mxN (r : Nat → Int × Int) (i : Nat) : Int × Int := foldN i (fun s j => maxStep s (r j)) (r 0)
def ratN (G : Nat → Nat → Int) (v : Nat → Int) (n i : Nat) : Int × Int := (lowest (dotN (G i) v n) (v i)).1
section
variable {n : Nat} {G : Nat → Nat → Int} {v : Nat → Int}
end
def asked (g : List (List Int)) (u : List Int) : Bool := isGraph g && (isVec u && ((u.length : Int) == (g.length : Int)))
end Go.PV

/-
 Plain laws: lists turned round, ones.
 Conditions: none.
-/
set_option linter.all false
namespace Go.PV
section
variable {α : Type} [Inhabited α]
def revSt (xs : List α) (k : Nat) : List α := tab xs.length fun p => if p < k ∨ xs.length ≤ p + k then xs.getD (xs.length - 1 - p) default else xs.getD p default
theorem getD_lt {xs : List α} {i : Nat} (h : i < xs.length) : xs[i]? = some (xs.getD i default) := by simp [h]
theorem rev_loop (xs : List α) (hl : xs.length ≤ 4611686018427387904) (body : (List α × Int × Int) → Option ((List α × Int × Int) ⊕ List α))
  (hb : ∀ x, body x = if (decide (x.2.1 < x.2.2)) = true then (idxO x.1 x.2.1).bind fun v4 => (idxO x.1 x.2.2).bind fun v5 => (guardO (x.2.1 ≠ x.2.2)).bind fun u6 =>
   some (.inl (((x.1.set (Int.toNat x.2.1) v5).set (Int.toNat x.2.2) v4), (w64 (x.2.1 + 1)), (w64 (x.2.2 - 1)))) else some (.inr x.1)) :
  loopO body (xs, 0, w64 ((xs.length : Int) - 1)) = some xs.reverse := by
 have hx := loop_idx (body := body) (xs.length / 2) (fun k => (revSt xs k, (k : Int), ((xs.length : Int) - 1 - k))) xs.reverse (fun k hk => by
  have h1 : k < xs.length := by omega
  have h2 : xs.length - 1 - k < xs.length := by omega
  have e1 : ((xs.length : Int) - 1 - k) = ((xs.length - 1 - k : Nat) : Int) := by omega
  rw [hb]
  simp only [e1, show ((k : Int) < ((xs.length - 1 - k : Nat) : Int)) from by omega, decide_true, if_true]
  rw [revSt, idxO_tab h1, idxO_tab h2, Option.bind_some, Option.bind_some, guardO_bind_pos (by omega)]
  have e3 : ¬ (k < k ∨ xs.length ≤ k + k) := by omega
  have e4 : ¬ (xs.length - 1 - k < k ∨ xs.length ≤ xs.length - 1 - k + k) := by omega
  rw [if_neg e3, if_neg e4, w64_nat (show k < 9223372036854775807 by omega), w64_id (by omega) (by omega), Int.toNat_natCast, Int.toNat_natCast, tab_set h1, tab_set h2]
  congr 2
  refine Prod.ext ?_ (Prod.ext rfl (by show ((xs.length - 1 - k : Nat) : Int) - 1 = (xs.length : Int) - 1 - ((k + 1 : Nat) : Int); omega))
  refine tab_ext fun p hp => ?_
  by_cases c1 : p = xs.length - 1 - k
  ·subst c1
   rw [if_pos rfl, if_pos (by omega), show xs.length - 1 - (xs.length - 1 - k) = k from by omega]
  ·rw [if_neg c1]
   by_cases c2 : p = k
   ·subst c2; rw [if_pos rfl, if_pos (by omega)]
   ·rw [if_neg c2]
    by_cases c3 : p < k ∨ xs.length ≤ p + k
    ·rw [if_pos c3, if_pos (by omega)]
    ·rw [if_neg c3, if_neg (by omega)]) (by
  rw [hb]
  have : ¬ (((xs.length / 2 : Nat) : Int) < ((xs.length : Int) - 1 - (xs.length / 2 : Nat))) := by omega
  simp only [this, decide_false, Bool.false_eq_true, if_false]
  congr 2
  apply List.ext_getElem?
  intro p
  by_cases hp : p < xs.length
  ·rw [revSt, tab_get hp, List.getElem?_reverse hp, getD_lt (by omega)]
   congr 1
   split
   ·rfl
   ·congr 1; omega
  ·rw [List.getElem?_eq_none (by rw [revSt, tab_len]; omega), List.getElem?_eq_none (by simp; omega)])
 have e0 : revSt xs 0 = xs := by
  apply List.ext_getElem?
  intro p
  by_cases hp : p < xs.length
  ·rw [revSt, tab_get hp, if_neg (by omega), getD_lt hp]
  ·rw [List.getElem?_eq_none (by rw [revSt, tab_len]; omega), List.getElem?_eq_none (by omega)]
 simp only [e0] at hx
 rw [w64_id (by omega) (by omega)]
 have : ((xs.length : Int) - 1) = (xs.length : Int) - 1 - ((0 : Nat) : Int) := by omega
 rw [this]
 exact hx
end
theorem slices_Reverse_int_eq (xs : List Int) (hl : xs.length ≤ 4611686018427387904) : slices_Reverse_Lint_int xs = some xs.reverse := by
 unfold slices_Reverse_Lint_int
 rw [rev_loop xs hl slices_Reverse_Lint_int_b1 fun x => rfl]
 rfl
theorem mul_1_0 : math_bits_Mul 1 0 = some (0, 0) := by kernel_rfl
theorem mul_1_1 : math_bits_Mul 1 1 = some (0, 1) := by kernel_rfl
theorem mul_1_2 : math_bits_Mul 1 2 = some (0, 2) := by kernel_rfl
theorem mul_1_3 : math_bits_Mul 1 3 = some (0, 3) := by kernel_rfl
theorem mul_1_4 : math_bits_Mul 1 4 = some (0, 4) := by kernel_rfl
theorem mul_1_5 : math_bits_Mul 1 5 = some (0, 5) := by kernel_rfl
theorem mul_1_6 : math_bits_Mul 1 6 = some (0, 6) := by kernel_rfl
theorem mul_1_7 : math_bits_Mul 1 7 = some (0, 7) := by kernel_rfl
theorem mul_1_8 : math_bits_Mul 1 8 = some (0, 8) := by kernel_rfl
theorem mul_one (n : Nat) (hn : n ≤ 8) : math_bits_Mul 1 (n : Int) = some (0, (n : Int)) := by
 match n, hn with
 | 0, _ => exact mul_1_0
 | 1, _ => exact mul_1_1
 | 2, _ => exact mul_1_2
 | 3, _ => exact mul_1_3
 | 4, _ => exact mul_1_4
 | 5, _ => exact mul_1_5
 | 6, _ => exact mul_1_6
 | 7, _ => exact mul_1_7
 | 8, _ => exact mul_1_8
 | n + 9, h => omega
def trimZ (c : List Int) : List Int := (c.reverse.dropWhile (· == 0)).reverse
theorem trimZ_app (c : List Int) (x : Int) : trimZ (c ++ [x]) = if x = 0 then trimZ c else c ++ [x] := by
 unfold trimZ
 rw [List.reverse_append]
 simp only [List.reverse_cons, List.reverse_nil, List.nil_append, List.cons_append, List.dropWhile_cons]
 by_cases h : x = 0
 ·simp [h]
 ·simp [h]
theorem trimZ_len (c : List Int) : (trimZ c).length ≤ c.length := by
 unfold trimZ
 have := (List.dropWhile_sublist (· == 0) (l := c.reverse)).length_le
 simpa using this
theorem trim_loop {body : List Int → Option (List Int ⊕ List Int)} (hb : ∀ x, body x = ((if (decide ((x.length : Int) > 0)) = true then (idxO x (w64 ((x.length : Int) - 1))).bind fun v5 => some (v5 == 0) else some false).bind fun w6 =>
   if w6 = true then (guardO (0 ≤ (w64 ((x.length : Int) - 1)) ∧ (w64 ((x.length : Int) - 1)) ≤ (x.length : Int))).bind fun u8 => some (.inl (x.take (Int.toNat (w64 ((x.length : Int) - 1))))) else some (.inr x))) : ∀ (k : Nat) (c : List Int), c.length = k → k ≤ 1048576 → loopO body c = some (trimZ c)
 | 0, c, h, _ => by
  have : c = [] := List.eq_nil_of_length_eq_zero h
  subst this
  rw [loopO_eq, hb]; rfl
 | k + 1, c, h, hk => by
  rcases snoc_cases' c with rfl | ⟨d, x, rfl⟩
  ·simp at h
  ·have hd : d.length = k := by simpa using h
   rw [loopO_eq, hb]
   have e1 : w64 (((d ++ [x]).length : Int) - 1) = (d.length : Int) := by rw [List.length_append, List.length_singleton, w64_id (by omega) (by omega)]; omega
   have e2 : idxO (d ++ [x]) (d.length : Int) = some x := by rw [idxO_nat]; simp
   simp only [e1, e2, show (((d ++ [x]).length : Int) > 0) from by rw [List.length_append, List.length_singleton]; omega, decide_true, if_true, Option.bind_some, trimZ_app]
   by_cases hx : x = 0
   ·subst hx
    simp only [beq_self_eq_true, if_true]
    rw [guardO_bind_pos (by rw [List.length_append, List.length_singleton]; omega), Int.toNat_natCast]
    simp only [List.take_left]
    exact trim_loop hb k d hd (by omega)
   ·have : (x == 0) = false := by simpa using hx
    simp only [this, Bool.false_eq_true, if_false, hx]
where
 snoc_cases' (l : List Int) : l = [] ∨ ∃ d x, l = d ++ [x] := by
  rcases List.eq_nil_or_concat l with h | ⟨d, x, h⟩
  ·exact .inl h
  ·exact .inr ⟨d, x, by simpa using h⟩
theorem trimZ_last (c : List Int) (h : trimZ c ≠ []) : ∃ x, (trimZ c).getLast? = some x ∧ x ≠ 0 := by
 unfold trimZ at h ⊢
 rw [List.getLast?_reverse]
 cases hd : c.reverse.dropWhile (· == 0) with
 | nil => rw [hd] at h; simp at h
 | cons x l =>
  refine ⟨x, rfl, ?_⟩
  have := List.head_dropWhile_not (· == (0 : Int)) (l := c.reverse) (by rw [hd]; simp)
  simp only [hd, List.head_cons] at this
  simpa using this
end Go.PV

set_option linter.all false
namespace Go.PV
end Go.PV

/-
 Plain laws: vectors of walks, bounds of growth.
 Conditions: none.
-/
set_option linter.all false
namespace Go.PV
def vk (G : Nat → Nat → Int) (n : Nat) : Nat → Nat → Int
 | 0 => fun _ => 1
 | k + 1 => fun j => dotN (G j) (vk G n k) n + vk G n k j
def mxg (G : Nat → Nat → Int) (n : Nat) : Nat → Nat
 | 0 => 0
 | k + 1 => if mxg G n k = k ∧ isVec (tab n (vk G n (k + 1))) = true then k + 1 else mxg G n k
section
variable {n : Nat} {G : Nat → Nat → Int}
def bestT (G : Nat → Nat → Int) (n : Nat) : (Int × Int) × (Int × Int) × Int × Bool := (mnN (ratN G (vk G n (mxg G n 20)) n) n, mxN (ratN G (vk G n (mxg G n 20)) n) n, ((mxg G n 20 : Nat) : Int), true)
end
end Go.PV

/-
 Plain laws: what draws from bytes always comes to an end.
 Conditions: none.
-/
set_option linter.all false
namespace Go.PV
def Tot {α : Type} (o : Option α) (P : α → Prop) : Prop := ∃ r, o = some r ∧ P r
section
variable {α β : Type} {P : α → Prop} {Q : β → Prop}
theorem Tot.bind {o : Option α} {f : α → Option β} (h : Tot o P) (k : ∀ r, P r → Tot (f r) Q) : Tot (o.bind f) Q := by
 obtain ⟨r, rfl, hr⟩ := h
 exact k r hr
theorem Tot.mono {P' : α → Prop} {o : Option α} (h : Tot o P) (k : ∀ r, P r → P' r) : Tot o P' := by
 obtain ⟨r, h, hr⟩ := h
 exact ⟨r, h, k r hr⟩
theorem Tot.ret {r : α} (h : P r) : Tot (some r) P := ⟨r, rfl, h⟩
theorem Tot.ite {c : Bool} {x y : Option α} (h1 : c = true → Tot x P) (h2 : c = false → Tot y P) : Tot (if c = true then x else y) P := by
 cases c
 ·exact h2 rfl
 ·exact h1 rfl
theorem Tot.guard {p : Prop} [Decidable p] {f : Unit → Option α} (h : p) (k : Tot (f ()) P) : Tot ((guardO p).bind f) P := by
 rw [guardO_bind_pos h]; exact k
def Lp {X Y : Type} (I : X → Prop) (R : Y → Prop) : X ⊕ Y → Prop
 | .inl x => I x
 | .inr y => R y
theorem Tot.inl {X Y : Type} {I : X → Prop} {R : Y → Prop} {x : X} (h : I x) : Tot (some (Sum.inl x)) (Lp I R) := ⟨_, rfl, h⟩
theorem Tot.inr {X Y : Type} {I : X → Prop} {R : Y → Prop} {y : Y} (h : R y) : Tot (some (Sum.inr y)) (Lp I R) := ⟨_, rfl, h⟩
theorem Tot.loop {X Y : Type} {body : X → Option (X ⊕ Y)} {R : Y → Prop} (Inv : X → Prop) (μ : X → Nat)
  (h : ∀ x, Inv x → Tot (body x) (Lp (fun x' => Inv x' ∧ μ x' < μ x) R)) (x0 : X) (h0 : Inv x0) : Tot (loopO body x0) R := by
 obtain ⟨y, h1, h2⟩ := loop_run (body := body) Inv μ R (fun x hx => by
  obtain ⟨r, e, hr⟩ := h x hx
  cases r with
  | inl x' => exact .inl ⟨x', e, hr.1, hr.2⟩
  | inr y => exact .inr ⟨y, e, hr⟩) x0 h0
 exact ⟨y, h1, h2⟩
end
theorem Tot.idx {α β : Type} {xs : List α} {i : Int} {f : α → Option β} {Q : β → Prop} (h0 : 0 ≤ i) (h1 : i < xs.length) (k : ∀ x, x ∈ xs → Tot (f x) Q) : Tot ((idxO xs i).bind f) Q := by
 obtain ⟨m, rfl⟩ := Int.eq_ofNat_of_zero_le h0
 have hm : m < xs.length := by omega
 rw [idxO_lt hm, Option.bind_some]
 exact k _ (List.getElem_mem hm)
abbrev Cur := List Int × Int × Int
def Bytes (l : List Int) : Prop := l.length ≤ 9223372036854775807 ∧ ∀ b ∈ l, 0 ≤ b ∧ b ≤ 255
def Ck (B : Nat) (c : Cur) : Prop := Bytes c.1 ∧ 0 ≤ c.2.1 ∧ c.2.1 ≤ B
theorem Ck.mono {B B' : Nat} {c : Cur} (h : Ck B c) (hb : B ≤ B') : Ck B' c := ⟨h.1, h.2.1, by have := h.2.2; omega⟩
theorem ck0 {l : List Int} (h : Bytes l) : Ck 0 (l, 0, 0) := ⟨h, by simp, by simp⟩
theorem wrapU64 (n : Int) : IntKind.u64.wrap n = n % 18446744073709551616 := by simp [IntKind.wrap, IntKind.bits, IntKind.signed]
theorem wrap_i64 (n : Int) : IntKind.wrap .i64 n = w64 n := rfl
theorem iand_255 (x : Int) : 0 ≤ iand .u64 x 255 ∧ iand .u64 x 255 ≤ 255 := by
 unfold iand
 have h : ((BitVec.ofInt (IntKind.bits .u64) x) &&& (BitVec.ofInt (IntKind.bits .u64) 255)).toNat ≤ 255 := by
  rw [BitVec.toNat_and]
  have : (BitVec.ofInt (IntKind.bits .u64) 255).toNat = 255 := by decide
  rw [this]
  exact Nat.and_le_right
 rw [wrapU64, Int.emod_eq_of_lt (by omega) (by omega)]
 omega
theorem next_ok {B : Nat} {c : Cur} (h : Ck B c) (hB : B ≤ 1152921504606846976) : Tot (spec_l1Cur_next c) fun r => (0 ≤ r.1 ∧ r.1 ≤ 255) ∧ Ck (B + 1) r.2 := by
 obtain ⟨⟨hl, hb⟩, h0, h1⟩ := h
 have hw : w64 (c.2.1 + 1) = c.2.1 + 1 := w64_id (by omega) (by omega)
 have key : ∀ x : Int, 0 ≤ x → x ≤ 255 → Tot (spec_l1Cur_next_k1 c x) fun r => (0 ≤ r.1 ∧ r.1 ≤ 255) ∧ Ck (B + 1) r.2 := by
  intro x hx0 hx1
  unfold spec_l1Cur_next_k1
  rw [hw]
  refine Tot.ite (fun _ => Tot.ret ⟨⟨hx0, hx1⟩, ⟨hl, hb⟩, by show 0 ≤ c.2.1 + 1; omega, by show c.2.1 + 1 ≤ _; omega⟩) (fun _ => Tot.ret ⟨?_, ⟨hl, hb⟩, by show 0 ≤ c.2.1 + 1; omega, by show c.2.1 + 1 ≤ _; omega⟩)
  rw [wrap_i64]
  obtain ⟨a, b⟩ := iand_255 (ishr .u64 (IntKind.wrap .u64 ((IntKind.wrap .u64 ((IntKind.wrap .u64 (c.2.2 * 6364136223846793005)) + (IntKind.wrap .u64 x))) + 1442695040888963407)) 40)
  show 0 ≤ w64 _ ∧ w64 _ ≤ 255
  rw [w64_id (by omega) (by omega)]
  exact ⟨a, b⟩
 unfold spec_l1Cur_next
 refine Tot.ite (fun hc => ?_) (fun _ => key 0 (by omega) (by omega))
 have hlt : c.2.1 < (c.1.length : Int) := of_decide_eq_true hc
 refine Tot.idx h0 hlt fun x hx => ?_
 have := hb x hx
 rw [wrap_i64, w64_id (by omega) (by omega)]
 exact key x this.1 this.2
theorem tmod_rng {x n : Int} (hx : 0 ≤ x) (hn : 1 ≤ n) : 0 ≤ Int.tmod x n ∧ Int.tmod x n < n := by
 obtain ⟨a, rfl⟩ := Int.eq_ofNat_of_zero_le hx
 obtain ⟨b, rfl⟩ := Int.eq_ofNat_of_zero_le (show 0 ≤ n by omega)
 have : Int.tmod (a : Int) (b : Int) = ((a % b : Nat) : Int) := rfl
 rw [this]
 have := Nat.mod_lt a (show b > 0 by omega)
 omega
theorem pick_ok {B : Nat} {c : Cur} (h : Ck B c) (hB : B ≤ 1000000000000000000) (n : Int) : Tot (spec_l1Cur_pick c n) fun r => (0 ≤ r.1 ∧ (1 ≤ n → r.1 < n)) ∧ Ck (B + 2) r.2 := by
 unfold spec_l1Cur_pick
 refine Tot.ite (fun hc => Tot.ret ⟨⟨by show (0 : Int) ≤ 0; omega, fun h => by show (0 : Int) < n; omega⟩, h.mono (by omega)⟩) (fun hc => ?_)
 have hn : ¬ n ≤ 1 := of_decide_eq_false hc
 refine (next_ok h (by omega)).bind fun v2 ⟨⟨h1, h2⟩, h3⟩ => ?_
 refine Tot.ite (fun _ => ?_) (fun _ => ?_)
 ·refine (next_ok h3 (by omega)).bind fun v6 ⟨⟨h4, h5⟩, h6⟩ => ?_
  unfold spec_l1Cur_pick_k1
  refine Tot.guard (by omega) (Tot.ret ?_)
  have e : w64 ((w64 (v2.1 * 256)) + v6.1) = v2.1 * 256 + v6.1 := by rw [w64_id (n := v2.1 * 256) (by omega) (by omega), w64_id (by omega) (by omega)]
  have := tmod_rng (x := v2.1 * 256 + v6.1) (n := n) (by omega) (by omega)
  simp only [e]
  exact ⟨⟨this.1, fun _ => this.2⟩, h6⟩
 ·unfold spec_l1Cur_pick_k1
  refine Tot.guard (by omega) (Tot.ret ?_)
  have := tmod_rng (x := v2.1) (n := n) (by omega) (by omega)
  exact ⟨⟨this.1, fun _ => this.2⟩, h3.mono (by omega)⟩
theorem one_ok {B : Nat} {c : Cur} (h : Ck B c) (hB : B ≤ 1000000000000000000) (n : Int) : Tot (spec_l1Cur_one c n) fun r => Ck (B + 2) r.2 := by
 unfold spec_l1Cur_one
 exact (pick_ok h hB n).bind fun v h => Tot.ret h.2
theorem among_ok {B : Nat} {c : Cur} (h : Ck B c) (hB : B ≤ 1000000000000000000) (l : List Int) (hl : l ≠ []) : Tot (spec_l1Cur_among c l) fun r => r.1 ∈ l ∧ Ck (B + 2) r.2 := by
 unfold spec_l1Cur_among
 refine (pick_ok h hB _).bind fun v ⟨⟨h1, h2⟩, h3⟩ => ?_
 have : 0 < l.length := List.length_pos_iff.2 hl
 refine Tot.idx h1 (h2 (by omega)) fun x hx => Tot.ret ⟨hx, h3⟩
end Go.PV
namespace Go.PV
def cur4 {α : Type} (x : List Int × Int × Int × α) : Cur := (x.1, x.2.1, x.2.2.1)
def En (l : List Int) : Prop := ∀ x ∈ l, 0 ≤ x ∧ x ≤ 9
theorem En.app {l : List Int} {x : Int} (h : En l) (h0 : 0 ≤ x) (h9 : x ≤ 9) : En (l ++ [x]) := fun y hy => by
 rcases List.mem_append.1 hy with h' | h'
 ·exact h y h'
 ·rw [List.mem_singleton.1 h']; exact ⟨h0, h9⟩
theorem En.set {l : List Int} {i : Nat} {x : Int} (h : En l) (h0 : 0 ≤ x) (h9 : x ≤ 9) : En (l.set i x) := fun y hy => by
 rcases List.mem_or_eq_of_mem_set hy with h' | rfl
 ·exact h y h'
 ·exact ⟨h0, h9⟩
theorem graph_row {B : Nat} (hB : B ≤ 1000000000) {x2 : List Int × Int × Int × Int} {v3 : Int × Cur} {x26 : List Int × Int × Int × List (List Int) × Int} (h1 : 1 ≤ x2.2.2.2) (h8 : x2.2.2.2 ≤ 8)
  (hc : Ck B (cur4 x26)) : Tot (loopO (spec_l1Cur_graph_b4 x2 v3 x26) (x26.1, x26.2.1, x26.2.2.1, [], 0)) fun y => ((y.2.2.2.length : Int) = x2.2.2.2 ∧ En y.2.2.2) ∧ Ck (B + 40) (cur4 y) := by
 refine Tot.loop (fun x => (0 ≤ x.2.2.2.2 ∧ x.2.2.2.2 ≤ x2.2.2.2) ∧ ((x.2.2.2.1.length : Int) = x.2.2.2.2 ∧ En x.2.2.2.1) ∧ Ck (B + 4 * x.2.2.2.2.toNat) (cur4 x)) (fun x => (x2.2.2.2 - x.2.2.2.2).toNat) (fun x ⟨⟨i0, i1⟩, ⟨il, ie⟩, ic⟩ => ?_) _ ⟨⟨by simp, by show (0 : Int) ≤ _; omega⟩, ⟨by simp, fun x hx => by simp at hx⟩, by simpa [cur4] using hc⟩
 obtain ⟨c1, c2, c3, row, k⟩ := x
 simp only [cur4] at i0 i1 il ie ic ⊢
 unfold spec_l1Cur_graph_b4
 refine Tot.ite (fun hk => ?_) (fun hk => ?_)
 ·have hk' : k < x2.2.2.2 := of_decide_eq_true hk
  have fin : ∀ (x35 : List Int × Int × Int × Int), (0 ≤ x35.2.2.2 ∧ x35.2.2.2 ≤ 9) → Ck (B + 4 * k.toNat + 4) (cur4 x35) → Tot (spec_l1Cur_graph_k8 (c1, c2, c3, row, k) x35) (Lp (fun x' => ((0 ≤ x'.2.2.2.2 ∧ x'.2.2.2.2 ≤ x2.2.2.2) ∧ ((x'.2.2.2.1.length : Int) = x'.2.2.2.2 ∧ En x'.2.2.2.1) ∧ Ck (B + 4 * x'.2.2.2.2.toNat) (x'.1, x'.2.1, x'.2.2.1)) ∧ (x2.2.2.2 - x'.2.2.2.2).toNat < (x2.2.2.2 - k).toNat)
    (fun y => ((y.2.2.2.length : Int) = x2.2.2.2 ∧ En y.2.2.2) ∧ Ck (B + 40) (y.1, y.2.1, y.2.2.1))) := by
   intro x35 hx h35
   unfold spec_l1Cur_graph_k8
   refine Tot.guard (by simp; omega) (Tot.inl ?_)
   have hw : w64 (k + 1) = k + 1 := w64_id (by omega) (by omega)
   simp only [hw]
   refine ⟨⟨⟨by omega, by omega⟩, ⟨by simp; omega, ie.app hx.1 hx.2⟩, h35.mono (by omega)⟩, by omega⟩
  refine (one_ok ic (by omega) _).bind fun v37 h37 => ?_
  refine Tot.bind (P := fun _ => True) ?_ fun w39 _ => ?_
  ·refine Tot.ite (fun _ => Tot.ret trivial) (fun _ => Tot.ite (fun _ => Tot.guard (by omega) (Tot.ret trivial)) (fun _ => Tot.ret trivial))
  ·refine Tot.ite (fun _ => ?_) (fun _ => fin (v37.2.1, v37.2.2.1, v37.2.2.2, 0) (by simp) (Ck.mono (B := B + 4 * k.toNat + 2) h37 (by omega)))
   exact (among_ok h37 (by omega) _ (by simp)).bind fun v41 ⟨m41, h41⟩ => fin (v41.2.1, v41.2.2.1, v41.2.2.2, v41.1) (by simp only [List.mem_cons, List.not_mem_nil, or_false] at m41; show 0 ≤ v41.1 ∧ v41.1 ≤ 9; omega) h41
 ·have hk' : ¬ k < x2.2.2.2 := of_decide_eq_false hk
  exact Tot.inr ⟨⟨by show (row.length : Int) = _; omega, ie⟩, ic.mono (by omega)⟩
def Sq (n : Int) (g : List (List Int)) : Prop := (g.length : Int) = n ∧ ∀ row ∈ g, (row.length : Int) = n ∧ En row
theorem mem_set {α : Type} {xs : List α} {i : Nat} {a x : α} (h : x ∈ xs.set i a) : x ∈ xs ∨ x = a := List.mem_or_eq_of_mem_set h
theorem Sq.set {n : Int} {g : List (List Int)} (h : Sq n g) {i : Nat} {row : List Int} (hr : (row.length : Int) = n ∧ En row) : Sq n (g.set i row) := ⟨by rw [List.length_set]; exact h.1, fun r hr' => by
 rcases mem_set hr' with h' | rfl
 ·exact h.2 r h'
 ·exact hr⟩
theorem graph_rows {B : Nat} (hB : B ≤ 100000000) {x2 : List Int × Int × Int × Int} {v3 : Int × Cur} (h1 : 1 ≤ x2.2.2.2) (h8 : x2.2.2.2 ≤ 8) (hc : Ck B v3.2) :
  Tot (loopO (spec_l1Cur_graph_b3 x2 v3) (v3.2.1, v3.2.2.1, v3.2.2.2, [], 0)) fun y => Sq x2.2.2.2 y.2.2.2 ∧ Ck (B + 400) (cur4 y) := by
 refine Tot.loop (fun x => (0 ≤ x.2.2.2.2 ∧ x.2.2.2.2 ≤ x2.2.2.2) ∧ ((x.2.2.2.1.length : Int) = x.2.2.2.2 ∧ ∀ row ∈ x.2.2.2.1, (row.length : Int) = x2.2.2.2 ∧ En row) ∧ Ck (B + 40 * x.2.2.2.2.toNat) (cur4 x)) (fun x => (x2.2.2.2 - x.2.2.2.2).toNat) (fun x ⟨⟨i0, i1⟩, ⟨il, ir⟩, ic⟩ => ?_) _ ⟨⟨by simp, by show (0 : Int) ≤ _; omega⟩, ⟨by simp, by simp⟩, by simpa [cur4] using hc⟩
 obtain ⟨c1, c2, c3, out, k⟩ := x
 simp only [cur4] at i0 i1 il ir ic ⊢
 unfold spec_l1Cur_graph_b3
 refine Tot.ite (fun hk => ?_) (fun hk => ?_)
 ·have hk' : k < x2.2.2.2 := of_decide_eq_true hk
  refine (graph_row (x26 := (c1, c2, c3, out, k)) (by omega) h1 h8 ic).bind fun y ⟨hy, hyc⟩ => ?_
  unfold spec_l1Cur_graph_k7 spec_l1Cur_graph_k6
  refine Tot.guard (by simp; omega) (Tot.inl ?_)
  have hw : w64 (k + 1) = k + 1 := w64_id (by omega) (by omega)
  simp only [hw]
  refine ⟨⟨⟨by omega, by omega⟩, ⟨by simp; omega, fun row hr => ?_⟩, hyc.mono (by omega)⟩, by omega⟩
  rcases List.mem_append.1 hr with h | h
  ·exact ir row h
  ·rw [List.mem_singleton.1 h]; exact hy
 ·have hk' : ¬ k < x2.2.2.2 := of_decide_eq_false hk
  exact Tot.inr ⟨⟨by show (out.length : Int) = _; omega, ir⟩, ic.mono (by omega)⟩
theorem graph_full {n : Int} (h1 : 1 ≤ n) (h8 : n ≤ 8) {x5 : List Int × Int × Int × List (List Int)} {v7 : Bool × Cur} (hs : Sq n x5.2.2.2) :
  Tot (loopO (spec_l1Cur_graph_b1 x5 v7) (x5.2.2.2, 0)) fun y => Sq n y.2.2.2 ∧ cur4 y = v7.2 := by
 refine Tot.loop (fun x => Sq n x.1 ∧ 0 ≤ x.2 ∧ x.2 ≤ n) (fun x => (n - x.2).toNat) (fun x ⟨hx, i0, i1⟩ => ?_) _ ⟨hs, by simp, by show (0 : Int) ≤ n; omega⟩
 obtain ⟨g, k⟩ := x
 simp only at hx i0 i1 ⊢
 unfold spec_l1Cur_graph_b1
 refine Tot.ite (fun hk => ?_) (fun hk => ?_)
 ·have hk' : k < (x5.2.2.2.length : Int) := of_decide_eq_true hk
  rw [hs.1] at hk'
  refine Tot.idx i0 (by rw [hx.1]; exact hk') fun row hrow => ?_
  refine Tot.bind (P := fun y => Sq n y) ?_ fun y hy => ?_
  ·refine Tot.loop (fun z => Sq n z.1 ∧ 0 ≤ z.2 ∧ z.2 ≤ n) (fun z => (n - z.2).toNat) (fun z ⟨hz, j0, j1⟩ => ?_) _ ⟨hx, by simp, by show (0 : Int) ≤ n; omega⟩
   obtain ⟨g2, j⟩ := z
   simp only at hz j0 j1 ⊢
   unfold spec_l1Cur_graph_b2
   refine Tot.ite (fun hj => ?_) (fun hj => Tot.inr hz)
   have hj' : j < (row.length : Int) := of_decide_eq_true hj
   rw [(hx.2 row hrow).1] at hj'
   refine Tot.idx i0 (by rw [hz.1]; exact hk') fun r2 hr2 => ?_
   refine Tot.idx j0 (by rw [(hz.2 r2 hr2).1]; exact hj') fun _ _ => Tot.inl ?_
   have hw : w64 (j + 1) = j + 1 := w64_id (by omega) (by omega)
   simp only [hw]
   exact ⟨⟨hz.set ⟨by rw [List.length_set]; exact (hz.2 r2 hr2).1, (hz.2 r2 hr2).2.set (by decide) (by decide)⟩, by omega, by omega⟩, by omega⟩
  ·unfold spec_l1Cur_graph_k5
   have hw : w64 (k + 1) = k + 1 := w64_id (by omega) (by omega)
   refine Tot.inl ?_
   simp only [hw]
   exact ⟨⟨hy, by omega, by omega⟩, by omega⟩
 ·exact Tot.inr ⟨hx, rfl⟩
theorem graph_ok {B : Nat} (hB : B ≤ 1000000) {c : Cur} (hc : Ck B c) : Tot (spec_l1Cur_graph c) fun r => (∃ n : Int, 1 ≤ n ∧ n ≤ 8 ∧ Sq n r.1) ∧ Ck (B + 1000) r.2 := by
 have k3 : ∀ (B' : Nat) (n : Int) (x5 : List Int × Int × Int × List (List Int)), B' ≤ B + 500 → 1 ≤ n → n ≤ 8 → Sq n x5.2.2.2 → Ck B' (cur4 x5) → Tot (spec_l1Cur_graph_k3 x5) fun r => (∃ n : Int, 1 ≤ n ∧ n ≤ 8 ∧ Sq n r.1) ∧ Ck (B + 1000) r.2 := by
  intro B' n x5 hB' h1 h8 hs hc
  unfold spec_l1Cur_graph_k3
  refine (one_ok (c := cur4 x5) hc (by omega) _).bind fun v7 h7 => ?_
  refine Tot.ite (fun _ => ?_) (fun _ => Tot.ret ⟨⟨n, h1, h8, hs⟩, Ck.mono h7 (by omega)⟩)
  refine (graph_full h1 h8 hs).bind fun y ⟨hy, hyc⟩ => Tot.ret ⟨⟨n, h1, h8, hy⟩, ?_⟩
  show Ck _ (cur4 y)
  rw [hyc]; exact h7.mono (by omega)
 have k1 : ∀ (B' : Nat) (x2 : List Int × Int × Int × Int), B' ≤ B + 10 → 1 ≤ x2.2.2.2 → x2.2.2.2 ≤ 8 → Ck B' (cur4 x2) → Tot (spec_l1Cur_graph_k1 x2) fun r => (∃ n : Int, 1 ≤ n ∧ n ≤ 8 ∧ Sq n r.1) ∧ Ck (B + 1000) r.2 := by
  intro B' x2 hB' h1 h8 hc
  unfold spec_l1Cur_graph_k1
  refine (among_ok (c := cur4 x2) hc (by omega) _ (by simp)).bind fun v3 ⟨_, h3⟩ => ?_
  refine (graph_rows (by omega) h1 h8 h3).bind fun y ⟨hy, hyc⟩ => ?_
  unfold spec_l1Cur_graph_k2
  refine (one_ok (c := cur4 y) hyc (by omega) _).bind fun v19 h19 => ?_
  refine Tot.ite (fun _ => ?_) (fun _ => k3 _ _ _ (by omega : B' + 2 + 400 + 2 ≤ B + 500) h1 h8 hy h19)
  refine (pick_ok h19 (by omega) _).bind fun v21 ⟨⟨a1, a2⟩, h21⟩ => ?_
  refine Tot.idx a1 (by rw [hy.1]; exact a2 h1) fun row hrow => ?_
  refine (pick_ok h21 (by omega) _).bind fun v23 ⟨⟨b1, b2⟩, h23⟩ => ?_
  refine (among_ok h23 (by omega) _ (by simp)).bind fun v24 ⟨m24, h24⟩ => ?_
  simp only [List.mem_cons, List.not_mem_nil, or_false] at m24
  refine Tot.idx b1 (by rw [(hy.2 row hrow).1]; exact b2 h1) fun _ _ => ?_
  exact k3 _ _ _ (by omega : B' + 2 + 400 + 2 + 2 + 2 + 2 ≤ B + 500) h1 h8 (hy.set ⟨by rw [List.length_set]; exact (hy.2 row hrow).1, (hy.2 row hrow).2.set (by omega) (by omega)⟩) h24
 unfold spec_l1Cur_graph
 refine (pick_ok hc (by omega) _).bind fun v1 ⟨⟨a1, a2⟩, h1⟩ => ?_
 refine (one_ok h1 (by omega) _).bind fun v42 h42 => ?_
 refine Tot.ite (fun _ => ?_) (fun _ => ?_)
 ·refine (among_ok h42 (by omega) _ (by simp)).bind fun v44 ⟨hm, h44⟩ => ?_
  have : 1 ≤ v44.1 ∧ v44.1 ≤ 8 := by
   simp only [List.mem_cons, List.not_mem_nil, or_false] at hm
   omega
  exact k1 _ _ (by omega : B + 2 + 2 + 2 ≤ B + 10) this.1 this.2 h44
 ·have := a2 (by omega)
  have e : w64 (1 + v1.1) = 1 + v1.1 := w64_id (by omega) (by omega)
  exact k1 _ _ (by omega : B + 2 + 2 ≤ B + 10) (by show 1 ≤ w64 (1 + v1.1); omega) (by show w64 (1 + v1.1) ≤ 8; omega) h42
def Sm (g : List (List Int)) : Prop := g.length ≤ 9 ∧ ∀ row ∈ g, row.length ≤ 9
theorem Sm.sized {g : List (List Int)} (h : Sm g) : sized g := ⟨by have := h.1; omega, fun row hr => by have := h.2 row hr; omega⟩
theorem Sq.sm {n : Int} {g : List (List Int)} (h : Sq n g) (h8 : n ≤ 8) : Sm g := ⟨by have := h.1; omega, fun row hr => by have := (h.2 row hr).1; omega⟩
theorem anyGraph_ok {B : Nat} (hB : B ≤ 1000000) {c : Cur} (hc : Ck B c) : Tot (spec_l1Cur_anyGraph c) fun r => Sm r.1 ∧ Ck (B + 1010) r.2 := by
 unfold spec_l1Cur_anyGraph spec_l1Cur_anyGraph_k1
 refine (graph_ok hB hc).bind fun v1 ⟨⟨n, n1, n8, hs⟩, h1⟩ => ?_
 refine (pick_ok h1 (by omega) _).bind fun v3 ⟨_, h3⟩ => ?_
 refine Tot.ite (fun _ => ?_) (fun _ => Tot.ite (fun _ => ?_) (fun _ => Tot.ite (fun _ => ?_) (fun _ => Tot.ite (fun _ => ?_) (fun _ => ?_))))
 ·refine Tot.idx (by omega) (by rw [hs.1]; omega) fun row hrow => ?_
  refine (pick_ok h3 (by omega) _).bind fun v6 ⟨⟨a1, a2⟩, h6⟩ => ?_
  refine (among_ok h6 (by omega) _ (by simp)).bind fun v7 ⟨_, h7⟩ => ?_
  refine Tot.idx a1 (by rw [(hs.2 row hrow).1, ← hs.1]; exact a2 (by rw [hs.1]; exact n1)) fun _ _ => Tot.ret ⟨?_, h7.mono (by omega)⟩
  refine ⟨by show (v1.1.set _ _).length ≤ 9; rw [List.length_set]; have := hs.1; omega, fun r hr => ?_⟩
  rcases mem_set hr with h | rfl
  ·have := (hs.2 r h).1; omega
  ·rw [List.length_set]; have := (hs.2 row hrow).1; omega
 ·refine Tot.idx (by omega) (by rw [hs.1]; omega) fun row hrow => ?_
  have hl := (hs.2 row hrow).1
  refine Tot.guard (by simp; omega) (Tot.ret ⟨⟨?_, fun r hr => ?_⟩, h3.mono (by omega)⟩)
  ·show (v1.1.set _ _).length ≤ 9
   rw [List.length_set]; have := hs.1; omega
  ·rcases mem_set hr with h | rfl
   ·have := (hs.2 r h).1; omega
   ·simp; omega
 ·exact Tot.ret ⟨⟨by simp, by simp⟩, h3.mono (by omega)⟩
 ·refine Tot.bind (P := fun y => Sm y.2.2.2 ∧ cur4 y = v3.2) ?_ fun y ⟨hy, hyc⟩ => Tot.ret ⟨hy, ?_⟩
  ·refine Tot.loop (fun x => Sm x) (fun x => 9 - x.length) (fun x hx => ?_) _ ⟨by simp, by simp⟩
   unfold spec_l1Cur_anyGraph_b1
   refine Tot.ite (fun hk => ?_) (fun hk => Tot.inr ⟨hx, rfl⟩)
   have hk' : (x.length : Int) < 9 := of_decide_eq_true hk
   refine Tot.guard (by decide) (Tot.guard (by simp; omega) (Tot.inl ?_))
   refine ⟨⟨by simp; omega, fun r hr => ?_⟩, by simp; omega⟩
   rcases List.mem_append.1 hr with h | h
   ·exact hx.2 r h
   ·rw [List.mem_singleton.1 h]; decide
  ·show Ck _ (cur4 y)
   rw [hyc]; exact h3.mono (by omega)
 ·exact Tot.ret ⟨hs.sm n8, h3.mono (by omega)⟩
end Go.PV

/-
 Plain laws: which states are reached, and graphs without closed walks.
 Conditions: none.
-/
set_option linter.all false
namespace Go.PV
def wsh (R : Nat → Nat → Bool) (k i j : Nat) : Bool := R i j || (R i k && R k j)
theorem wsh_col (R : Nat → Nat → Bool) (k i : Nat) : wsh R k i k = R i k := by unfold wsh; cases R i k <;> simp
theorem wsh_row (R : Nat → Nat → Bool) (k j : Nat) : wsh R k k j = R k j := by unfold wsh; cases R k j <;> simp
def rch (n : Nat) (G : Nat → Nat → Int) : Nat → Nat → Nat → Bool
 | 0 => fun i j => decide (G i j > 0)
 | k + 1 => wsh (rch n G k) k
section
variable {n : Nat} {G : Nat → Nat → Int}
theorem reach_b5 (hn : n ≤ 8) {i : Nat} (hi : i < n) (X : Nat → List Bool) (x1 : List (List Bool)) (hX : X i = []) :
  loopO (impl_reach_b5 (x1, (i : Int)) (tab n (G i))) (tab n X, 0) = some (tab n fun a => if a = i then tab n (fun j => decide (G i j > 0)) else X a) := by
 have hx := loop_idx (body := impl_reach_b5 (x1, (i : Int)) (tab n (G i))) n (fun j => (tab n (fun a => if a = i then tab j (fun j => decide (G i j > 0)) else X a), (j : Int))) (tab n fun a => if a = i then tab n (fun j => decide (G i j > 0)) else X a) (fun j hj => by
  simp only [impl_reach_b5, tab_len, show ((j : Int) < (n : Int)) from by omega, decide_true, if_true, idxO_tab hj, idxO_tab hi, Option.bind_some]
  rw [guardO_bind_pos (by simp [tab_len]; omega)]
  simp only [Int.toNat_natCast, tab_set hi, w64_nat (show j < 9223372036854775807 by omega), tab_succ j (fun j => decide (G i j > 0))]
  congr 3
  exact tab_ext fun a _ => by by_cases h : a = i <;> simp [h]) (by simp [impl_reach_b5, tab_len])
 have e : (tab n fun a => if a = i then tab 0 (fun j => decide (G i j > 0)) else X a) = tab n X := tab_ext fun a _ => by
  by_cases h : a = i
  ·subst h; simp [hX, tab_zero]
  ·simp [h]
 rw [e] at hx
 exact hx
theorem reach_b4 (hn : n ≤ 8) : loopO (impl_reach_b4 (mat n n G)) (List.replicate n [], 0) = some (mat n n (rch n G 0)) := by
 have hx := loop_idx (body := impl_reach_b4 (mat n n G)) n (fun i => (tab n (fun a => if a < i then tab n (fun j => decide (G a j > 0)) else []), (i : Int))) (mat n n (rch n G 0)) (fun i hi => by
  simp only [impl_reach_b4, mat_len, show ((i : Int) < (n : Int)) from by omega, decide_true, if_true, idxO_mat hi, Option.bind_some]
  rw [reach_b5 hn hi _ _ (by simp), Option.bind_some]
  simp only [impl_reach_k5, w64_nat (show i < 9223372036854775807 by omega)]
  congr 3
  exact tab_ext fun a _ => by
   by_cases h : a = i
   ·subst h; simp
   ·by_cases h2 : a < i
    ·simp [h, h2, show a < i + 1 by omega]
    ·simp [h, h2, show ¬ a < i + 1 by omega]) (by
  simp only [impl_reach_b4, mat_len, Int.lt_irrefl, decide_false, Bool.false_eq_true, if_false]
  congr 2
  exact tab_ext fun a ha => by simp [ha, rch])
 rw [rep_tab]
 simpa using hx
theorem reach_b3 (hn : n ≤ 8) {k i : Nat} (hk : k < n) (hi : i < n) (R : Nat → Nat → Bool) (X Y : List (List Bool)) :
  loopO (impl_reach_b3 (mat n n G) (X, (k : Int)) (Y, (i : Int))) (mat n n (fun a b => if a < i then wsh R k a b else R a b), 0) = some (mat n n fun a b => if a < i + 1 then wsh R k a b else R a b) := by
 have hx := loop_idx (body := impl_reach_b3 (mat n n G) (X, (k : Int)) (Y, (i : Int))) n (fun j => (mat n n (fun a b => if a < i ∨ (a = i ∧ b < j) then wsh R k a b else R a b), (j : Int))) (mat n n fun a b => if a < i + 1 then wsh R k a b else R a b) (fun j hj => by
  have e1 : (if i < i ∨ (True ∧ j < j) then wsh R k i j else R i j) = R i j := by simp
  have e2 : (if i < i ∨ (True ∧ k < j) then wsh R k i k else R i k) = R i k := by split; exact wsh_col R k i; rfl
  have e3 : (if k < i ∨ (k = i ∧ j < j) then wsh R k k j else R k j) = R k j := by split; exact wsh_row R k j; rfl
  simp only [impl_reach_b3, mat_len, show ((j : Int) < (n : Int)) from by omega, decide_true, if_true, idxO_mat hi, idxO_mat hk, idxO_tab hj, idxO_tab hk, Option.bind_some, e1, e2, e3, Int.toNat_natCast, mat_set2 hi hj, w64_nat (show j < 9223372036854775807 by omega)]
  have fin : ∀ v : Bool, v = wsh R k i j → (some (Sum.inl ((mat n n fun a b => if a = i then (if b = j then v else if i < i ∨ (True ∧ b < j) then wsh R k i b else R i b) else if a < i ∨ (a = i ∧ b < j) then wsh R k a b else R a b), ((j + 1 : Nat) : Int))) : Option ((List (List Bool) × Int) ⊕ List (List Bool))) = some (.inl (mat n n (fun a b => if a < i ∨ (a = i ∧ b < j + 1) then wsh R k a b else R a b), ((j + 1 : Nat) : Int))) := by
   intro v hv
   congr 3
   refine mat_ext fun a b _ _ => ?_
   by_cases ha : a = i
   ·subst ha
    by_cases hb : b = j
    ·subst hb; simp [hv]
    ·by_cases hb2 : b < j
     ·simp [hb, hb2, show b < j + 1 by omega]
     ·simp [hb, hb2, show ¬ b < j + 1 by omega]
   ·simp [ha]
  cases h1 : R i j
  ·simp only [Bool.false_eq_true, if_false]
   cases h2 : R i k
   ·simp only [Bool.false_eq_true, if_false, Option.bind_some]
    exact fin false (by simp [wsh, h1, h2])
   ·simp only [if_true, Option.bind_some]
    exact fin (R k j) (by simp [wsh, h1, h2])
  ·simp only [if_true, Option.bind_some]
   exact fin true (by simp [wsh, h1])) (by
  simp only [impl_reach_b3, mat_len, Int.lt_irrefl, decide_false, Bool.false_eq_true, if_false]
  congr 2
  refine mat_ext fun a b ha hb => ?_
  by_cases h : a < i
  ·simp [h, show a < i + 1 by omega]
  ·by_cases h2 : a = i
   ·subst h2; simp [hb]
   ·simp [h, h2, show ¬ a < i + 1 by omega])
 have e : (mat n n fun a b => if a < i ∨ (a = i ∧ b < 0) then wsh R k a b else R a b) = mat n n fun a b => if a < i then wsh R k a b else R a b := mat_ext fun a b _ _ => by simp
 rw [e] at hx
 exact hx
theorem reach_b2 (hn : n ≤ 8) {k : Nat} (hk : k < n) (R : Nat → Nat → Bool) (X : List (List Bool)) :
  loopO (impl_reach_b2 (mat n n G) (X, (k : Int))) (mat n n R, 0) = some (mat n n (wsh R k)) := by
 have hx := loop_idx (body := impl_reach_b2 (mat n n G) (X, (k : Int))) n (fun i => (mat n n (fun a b => if a < i then wsh R k a b else R a b), (i : Int))) (mat n n (wsh R k)) (fun i hi => by
  simp only [impl_reach_b2, mat_len, show ((i : Int) < (n : Int)) from by omega, decide_true, if_true]
  rw [reach_b3 hn hk hi, Option.bind_some]
  simp only [impl_reach_k4, w64_nat (show i < 9223372036854775807 by omega)]) (by
  simp only [impl_reach_b2, mat_len, Int.lt_irrefl, decide_false, Bool.false_eq_true, if_false]
  congr 2
  exact mat_ext fun a b ha _ => by simp [ha])
 simpa using hx
theorem impl_reach_eq (hn : n ≤ 8) : impl_reach (mat n n G) = some (mat n n (rch n G n)) := by
 have hx := loop_idx (body := impl_reach_b1 (mat n n G)) n (fun k => (mat n n (rch n G k), (k : Int))) (mat n n (rch n G n)) (fun k hk => by
  simp only [impl_reach_b1, mat_len, show ((k : Int) < (n : Int)) from by omega, decide_true, if_true]
  rw [reach_b2 hn hk, Option.bind_some]
  simp only [impl_reach_k3, w64_nat (show k < 9223372036854775807 by omega)]
  rfl) (by simp only [impl_reach_b1, mat_len, Int.lt_irrefl, decide_false, Bool.false_eq_true, if_false])
 unfold impl_reach
 rw [mat_len, guardO_bind_pos (by omega), Int.toNat_natCast, reach_b4 hn, Option.bind_some]
 unfold impl_reach_k1
 have hx' : loopO (impl_reach_b1 (mat n n G)) (mat n n (rch n G 0), 0) = some (mat n n (rch n G n)) := hx
 rw [hx']
 rfl
variable (hG : ∀ i j, i < n → j < n → 0 ≤ G i j)
include hG
theorem pw_pos_add {a b i l j : Nat} (hi : i < n) (hl : l < n) (hj : j < n) (h1 : 0 < pw n G a i l) (h2 : 0 < pw n G b l j) : 0 < pw n G (a + b) i j := by
 rw [pw_add a hi b j hj]
 have := sm_one hl (f := fun k => pw n G a i k * pw n G b k j) fun k hk => Int.mul_nonneg (pw_nonneg hG a hi hk) (pw_nonneg hG b hk hj)
 have h3 := Int.mul_pos h1 h2
 try simp only at this
 omega
theorem rch_sound : ∀ k, k ≤ n → ∀ i j, i < n → j < n → rch n G k i j = true → ∃ d, 1 ≤ d ∧ 0 < pw n G d i j
 | 0, _, i, j, hi, hj, h => ⟨1, Nat.le_refl _, by rw [pw_one hi]; exact of_decide_eq_true h⟩
 | k + 1, hk, i, j, hi, hj, h => by
  have ih := rch_sound k (by omega)
  have h' : (rch n G k i j || (rch n G k i k && rch n G k k j)) = true := h
  simp only [Bool.or_eq_true, Bool.and_eq_true] at h'
  rcases h' with h' | ⟨h1, h2⟩
  ·exact ih i j hi hj h'
  ·obtain ⟨d1, a1, b1⟩ := ih i k hi (by omega) h1
   obtain ⟨d2, a2, b2⟩ := ih k j (by omega) hj h2
   exact ⟨d1 + d2, by omega, pw_pos_add hG hi (by omega) hj b1 b2⟩
omit hG in
theorem rch_mono : ∀ k i j, 0 < G i j → rch n G k i j = true
 | 0, i, j, h => decide_eq_true h
 | k + 1, i, j, h => by
  show (rch n G k i j || _) = true
  rw [rch_mono k i j h]; rfl
omit hG in
theorem rch_trans : ∀ k m, m < k → ∀ i j, rch n G k i m = true → rch n G k m j = true → rch n G k i j = true
 | 0, m, hm, i, j, _, _ => by omega
 | k + 1, m, hm, i, j, h1, h2 => by
  have ih := fun m hm => rch_trans k m hm
  show wsh (rch n G k) k i j = true
  by_cases hmk : m = k
  ·subst hmk
   have a : rch n G m i m = true := by rw [← wsh_col (rch n G m) m i]; exact h1
   have b : rch n G m m j = true := by rw [← wsh_row (rch n G m) m j]; exact h2
   simp [wsh, a, b]
  ·have hlt : m < k := by omega
   have h1' : (rch n G k i m || (rch n G k i k && rch n G k k m)) = true := h1
   have h2' : (rch n G k m j || (rch n G k m k && rch n G k k j)) = true := h2
   simp only [Bool.or_eq_true, Bool.and_eq_true] at h1' h2'
   simp only [wsh, Bool.or_eq_true, Bool.and_eq_true]
   rcases h1' with a | ⟨a1, a2⟩
   ·rcases h2' with b | ⟨b1, b2⟩
    ·exact .inl (ih m hlt i j a b)
    ·exact .inr ⟨ih m hlt i k a b1, b2⟩
   ·rcases h2' with b | ⟨b1, b2⟩
    ·exact .inr ⟨a1, ih m hlt k j a2 b⟩
    ·exact .inr ⟨a1, b2⟩
def hgt (n : Nat) (R : Nat → Nat → Bool) (i : Nat) : Int := sm n fun m => if R i m = true then 1 else 0
omit hG in
theorem sm_lt {n a : Nat} {f g : Nat → Int} (ha : a < n) (h : ∀ i, i < n → f i ≤ g i) (h2 : f a < g a) : sm n f < sm n g := by
 have e := sm_sub n g f
 have := sm_one ha (f := fun i => g i - f i) fun i hi => by have := h i hi; omega
 try simp only at this
 omega
theorem no_long (h0 : ∀ i, i < n → rch n G n i i = false) : ∀ d i j, i < n → j < n → 0 < pw n G d i j → (d : Int) + hgt n (rch n G n) j ≤ hgt n (rch n G n) i
 | 0, i, j, hi, hj, h => by
  have : i = j := by
   simp only [pw] at h
   by_cases e : i = j
   ·exact e
   ·rw [if_neg e] at h; omega
  subst this; omega
 | d + 1, i, j, hi, hj, h => by
  -- the last step
  have h' : 0 < sm n fun k => pw n G d i k * G k j := h
  obtain ⟨k, hk, hkp⟩ : ∃ k, k < n ∧ 0 < pw n G d i k * G k j := by
   by_cases hex : ∃ k, k < n ∧ 0 < pw n G d i k * G k j
   ·exact hex
   ·have : sm n (fun k => pw n G d i k * G k j) ≤ sm n (fun _ => 0) := sm_le fun k hk => by
     exact Int.not_lt.1 fun h => hex ⟨k, hk, h⟩
    rw [sm_zeros] at this
    omega
  have p0 := pw_nonneg hG d hi hk
  have g0 := hG k j hk hj
  have p1 : 0 < pw n G d i k := by
   rcases Int.lt_or_eq_of_le p0 with h | h
   ·exact h
   ·rw [← h, Int.zero_mul] at hkp; omega
  have g1 : 0 < G k j := by
   rcases Int.lt_or_eq_of_le g0 with h | h
   ·exact h
   ·rw [← h, Int.mul_zero] at hkp; omega
  have ih := no_long h0 d i k hi hk p1
  have hkj := rch_mono (n := n) n k j g1
  have hlt : hgt n (rch n G n) j < hgt n (rch n G n) k := by
   unfold hgt
   refine sm_lt hj (fun m hm => ?_) ?_
   ·by_cases hjm : rch n G n j m = true
    ·rw [if_pos hjm, if_pos (rch_trans n j hj k m hkj hjm)]; exact Int.le_refl _
    ·rw [if_neg hjm]; split <;> omega
   ·rw [h0 j hj, hkj]; decide
  omega
theorem hgt_bd (h0 : ∀ i, i < n → rch n G n i i = false) {i : Nat} (hi : i < n) : 0 ≤ hgt n (rch n G n) i ∧ hgt n (rch n G n) i < n := by
 refine ⟨sm_nonneg fun m _ => by split <;> omega, ?_⟩
 have e : sm n (fun _ => (1 : Int)) = n := by
  have : ∀ k, sm k (fun _ => (1 : Int)) = k := by
   intro k
   induction k with
   | zero => rfl
   | succ k ih => rw [sm_succ, ih]; omega
  exact this n
 rw [← e]
 refine sm_lt hi (fun m _ => by split <;> omega) ?_
 rw [h0 i hi]; decide
theorem nil_pw (h0 : ∀ i, i < n → rch n G n i i = false) {d i j : Nat} (hd : n ≤ d) (hi : i < n) (hj : j < n) : pw n G d i j = 0 := by
 have p0 := pw_nonneg hG d hi hj
 rcases Int.lt_or_eq_of_le p0 with h | h
 ·have a := no_long hG h0 d i j hi hj h
  have b := hgt_bd hG h0 hi
  have c := hgt_bd hG h0 hj
  omega
 ·exact h.symm
theorem nil_diag (h0 : ∀ i, i < n → rch n G n i i = false) {d i : Nat} (hd : 1 ≤ d) (hi : i < n) : pw n G d i i = 0 := by
 have p0 := pw_nonneg hG d hi hi
 rcases Int.lt_or_eq_of_le p0 with h | h
 ·have a := no_long hG h0 d i i hi hi h
  omega
 ·exact h.symm
theorem nil_cw (h0 : ∀ i, i < n → rch n G n i i = false) {d : Nat} (hd : 1 ≤ d) : cw n G d = 0 := by
 unfold cw tr
 rw [sm_ext (g := fun _ => 0) fun i hi => nil_diag hG h0 hd hi, sm_zeros]
theorem loop_pw {i : Nat} (hi : i < n) (h : rch n G n i i = true) (m : Nat) : ∃ j, j < n ∧ 0 < pw n G m i j := by
 obtain ⟨d, d1, hp⟩ := rch_sound hG n (Nat.le_refl n) i i hi hi h
 have hpk : ∀ k, 0 < pw n G (d * k) i i := by
  intro k
  induction k with
  | zero => simp [pw]
  | succ k ih => rw [Nat.mul_succ]; exact pw_pos_add hG hi hi hi ih hp
 have hm : m ≤ d * m := Nat.le_mul_of_pos_left m d1
 have := hpk m
 rw [show d * m = m + (d * m - m) by omega, pw_add m hi _ i hi] at this
 by_cases hex : ∃ j, j < n ∧ 0 < pw n G m i j
 ·exact hex
 ·have h2 : sm n (fun k => pw n G m i k * pw n G (d * m - m) k i) = sm n (fun _ => 0) := sm_ext fun k hk => by
   have p0 := pw_nonneg hG m hi hk
   have : ¬ 0 < pw n G m i k := fun h => hex ⟨k, hk, h⟩
   rw [show pw n G m i k = 0 by omega, Int.zero_mul]
  rw [h2, sm_zeros] at this
  omega
end
theorem sum_tab (n : Nat) (f : Nat → Int) : (tab n f).sum = sm n f := by
 have : ∀ k, (tab k f).sum = sm k f := by
  intro k
  induction k with
  | zero => rfl
  | succ k ih => rw [← tab_succ, List.sum_append, ih, sm_succ]; simp
 exact this n
theorem total_mat (n : Nat) (F : Nat → Nat → Int) : total (mat n n F) = sm n fun i => sm n (F i) := by
 unfold total mat
 rw [tab_map, sum_tab]
 exact sm_ext fun i _ => sum_tab n (F i)
theorem capAt_nonneg {x : Int} (h : 0 ≤ x) : 0 ≤ capAt x := by unfold capAt; split <;> omega
theorem capAt_pos {x : Int} (h : 0 < x) : 0 < capAt x := by unfold capAt; split <;> omega
def noLoop (n : Nat) (G : Nat → Nat → Int) : Bool := (tab n fun i => rch n G n i i).all (!·)
theorem noLoop_iff {n : Nat} {G : Nat → Nat → Int} : noLoop n G = true ↔ ∀ i, i < n → rch n G n i i = false := by
 unfold noLoop
 rw [tab_all]
 simp
theorem total_zero {n : Nat} {G : Nat → Nat → Int} (hn : n ≤ 8) (hG : ∀ i j, i < n → j < n → 0 ≤ G i j ∧ G i j ≤ 9) : (total (mat n n (powN n G 1000000001 n)) = 0 ↔ noLoop n G = true) ∧ 0 ≤ total (mat n n (powN n G 1000000001 n)) := by
 have hA : ∀ i j, i < n → j < n → 0 ≤ G i j := fun i j hi hj => (hG i j hi hj).1
 rw [total_mat]
 have hrow : ∀ i, i < n → sm n (powN n G 1000000001 n i) = sm n fun j => capAt (pw n G n i j) := fun i hi => sm_ext fun j hj => powN_cap hG n hi hj
 rw [sm_ext hrow]
 have hnn : ∀ i, i < n → 0 ≤ sm n fun j => capAt (pw n G n i j) := fun i hi => sm_nonneg fun j hj => capAt_nonneg (pw_nonneg hA n hi hj)
 refine ⟨⟨fun h => ?_, fun h => ?_⟩, sm_nonneg hnn⟩
 ·rw [noLoop_iff]
  intro i hi
  cases hr : rch n G n i i with
  | false => rfl
  | true =>
   obtain ⟨j, hj, hp⟩ := loop_pw hA hi hr n
   have a := sm_one hi hnn
   have b := sm_one hj (f := fun j => capAt (pw n G n i j)) fun j hj => capAt_nonneg (pw_nonneg hA n hi hj)
   have c := capAt_pos hp
   try simp only at a b
   omega
 ·have h0 := noLoop_iff.1 h
  rw [sm_ext (g := fun _ => 0) fun i hi => by
   rw [sm_ext (g := fun _ => 0) fun j hj => by rw [nil_pw hA h0 (Nat.le_refl n) hi hj]; rfl, sm_zeros], sm_zeros]
theorem both_IsNilpotent {n : Nat} {G : Nat → Nat → Int} (h1 : 1 ≤ n) (hn : n ≤ 8) (hG : ∀ i j, i < n → j < n → 0 ≤ G i j ∧ G i j ≤ 9) (hg : isGraph (mat n n G) = true) (hs : sized (mat n n G)) :
  spec_IsNilpotent (mat n n G) = some (noLoop n G, true) ∧ impl_IsNilpotent (mat n n G) = some (noLoop n G, true) := by
 constructor
 ·unfold spec_IsNilpotent
  rw [spec_grGood_eq _ hs, hg]
  simp only [Option.bind_some, Bool.not_true, Bool.false_eq_true, if_false, mat_len, spec_gwTotal_eq hn hG n (by omega)]
  obtain ⟨a, b⟩ := total_zero hn hG
  congr 2
  rw [Bool.eq_iff_iff]
  rw [beq_iff_eq, ← a]
  unfold capAt
  split <;> omega
 ·unfold impl_IsNilpotent
  rw [impl_isGraph_eq _ hs, hg]
  simp only [Option.bind_some, Bool.not_true, Bool.false_eq_true, if_false, impl_reach_eq hn]
  have key : Tot (loopO (impl_IsNilpotent_b1 (mat n n (rch n G n))) 0) fun y => y = if noLoop n G = true then .inr () else .inl (false, true) := by
   refine Tot.loop (fun x => ∃ i : Nat, x = (i : Int) ∧ i ≤ n ∧ ∀ j, j < i → rch n G n j j = false) (fun x => n - x.toNat) (fun x ⟨i, hx, hi, hj⟩ => ?_) 0 ⟨0, rfl, by omega, fun j hj => by omega⟩
   subst hx
   unfold impl_IsNilpotent_b1
   rw [mat_len]
   refine Tot.ite (fun hlt => ?_) (fun hlt => Tot.inr ?_)
   ·have hlt' : (i : Int) < (n : Int) := of_decide_eq_true hlt
    have hin : i < n := by omega
    rw [idxO_mat hin, Option.bind_some, idxO_tab hin, Option.bind_some]
    refine Tot.ite (fun hr => Tot.inr ?_) (fun hr => Tot.inl ?_)
    ·rw [if_neg fun h => by rw [noLoop_iff.1 h i hin] at hr; cases hr]
    ·rw [w64_nat (show i < 9223372036854775807 by omega)]
     refine ⟨⟨i + 1, rfl, hin, fun j hj' => ?_⟩, by simp only [Int.toNat_natCast]; omega⟩
     by_cases hji : j = i
     ·rw [hji]; exact hr
     ·exact hj j (by omega)
   ·have hlt' : ¬ (i : Int) < (n : Int) := of_decide_eq_false hlt
    have hin : i = n := by omega
    subst hin
    rw [if_pos (noLoop_iff.2 hj)]
  obtain ⟨y, e, rfl⟩ := key
  rw [e]
  cases noLoop n G <;> rfl
end Go.PV

/-
 Plain laws: sums, products and quotients of fractions, with what is too large told.
 Conditions: none.
-/
set_option linter.all false
namespace Go.PV
abbrev Rt := Int × Int
def unO : Option Rt → Rt × Bool
 | some r => (r, true)
 | none => ((0, 0), false)
def lowQ (n d : Int) : Option Rt := if (lowest n d).2 = true then some (lowest n d).1 else none
def addQ (a b : Rt) : Option Rt := lowQ (a.1 * b.2 + b.1 * a.2) (a.2 * b.2)
def subQ (a b : Rt) : Option Rt := lowQ (a.1 * b.2 - b.1 * a.2) (a.2 * b.2)
def mulQ (a b : Rt) : Option Rt := lowQ (a.1 * b.1) (a.2 * b.2)
def divQ (a b : Rt) : Option Rt := if b.1 = 0 then none else lowQ (a.1 * b.2) (a.2 * b.1)
structure RB (a b : Rt) : Prop where
 m1 : -1000000000000000000 ≤ a.1 * b.2 ∧ a.1 * b.2 ≤ 1000000000000000000
 m2 : -1000000000000000000 ≤ b.1 * a.2 ∧ b.1 * a.2 ≤ 1000000000000000000
 m3 : -1000000000000000000 ≤ a.2 * b.2 ∧ a.2 * b.2 ≤ 1000000000000000000
 m4 : -1000000000000000000 ≤ a.1 * b.1 ∧ a.1 * b.1 ≤ 1000000000000000000
 ne : a.2 * b.2 ≠ 0
 m5 : -1000000000000000000 ≤ a.2 * b.1 ∧ a.2 * b.1 ≤ 1000000000000000000
section spec
variable {a b : Rt} (ha : isRat a = true) (hb : isRat b = true)
include ha hb
end spec
def cK (bad : Bool) : Option Rt → Rt × Bool
 | some r => (r, bad)
 | none => ((0, 1), true)
theorem isRat_neg {a : Rt} (h : isRat a = true) : isRat (0 - a.1, a.2) = true := by
 obtain ⟨h1, h2, h3, h4, h5⟩ := isRat_iff.1 h
 refine isRat_iff.2 ⟨h1, h2, by show -1000000000 ≤ 0 - a.1; omega, by show 0 - a.1 ≤ _; omega, ?_⟩
 show Int.gcd (0 - a.1) a.2 = 1
 rw [Int.zero_sub, Int.neg_gcd]; exact h5
section impl
variable {a b : Rt} (bad : Bool) (ha : isRat a = true) (hb : isRat b = true)
include ha hb
end impl
def absR (r : Rt) : Rt := ((r.1.natAbs : Int), r.2)
def distQ (a b : Rt) : Option Rt := if less a b then subQ b a else subQ a b
theorem lowQ_neg {n d : Int} (hd : 0 < d) : lowQ (-n) d = (lowQ n d).map fun r => (-r.1, r.2) := by
 have hn : ¬ d < 0 := by omega
 have e : isRat (Int.tdiv (-n) (Int.gcd n d : Int), Int.tdiv d (Int.gcd n d : Int)) = isRat (Int.tdiv n (Int.gcd n d : Int), Int.tdiv d (Int.gcd n d : Int)) := by
  rw [Int.neg_tdiv]
  cases h : isRat (Int.tdiv n (Int.gcd n d : Int), Int.tdiv d (Int.gcd n d : Int))
  ·cases h2 : isRat (-Int.tdiv n (Int.gcd n d : Int), Int.tdiv d (Int.gcd n d : Int))
   ·rfl
   ·have := isRat_neg h2
    simp only [Int.zero_sub, Int.neg_neg] at this
    rw [h] at this; cases this
  ·have := isRat_neg h
   simp only [Int.zero_sub] at this
   exact this
 unfold lowQ lowest
 simp only [Int.neg_gcd, if_neg hn, e]
 cases isRat (Int.tdiv n (Int.gcd n d : Int), Int.tdiv d (Int.gcd n d : Int))
 ·rfl
 ·simp [Int.neg_tdiv]
end Go.PV

/-
 Plain laws: what draws fractions and vectors always comes to an end.
 Conditions: none.
-/
set_option linter.all false
namespace Go.PV
end Go.PV

/-
 Plain laws: power sums, Euler products, companion graphs.
 Conditions: none.
-/
set_option linter.all false
namespace Go.PV
theorem w64_per (x k : Int) : w64 (x + 18446744073709551616 * k) = w64 x := by
 unfold w64 IntKind.wrap
 have e : (2 ^ IntKind.bits .i64 : Int) = 18446744073709551616 := by decide
 simp only [e, Int.add_mul_emod_self_left]
theorem w64_cong (x : Int) : ∃ k, w64 x = x + 18446744073709551616 * k := by
 unfold w64 IntKind.wrap
 have e : (2 ^ IntKind.bits .i64 : Int) = 18446744073709551616 := by decide
 simp only [e]
 split
 ·exact ⟨-(x / 18446744073709551616) - 1, by have := Int.mul_ediv_add_emod x 18446744073709551616; omega⟩
 ·exact ⟨-(x / 18446744073709551616), by have := Int.mul_ediv_add_emod x 18446744073709551616; omega⟩
theorem w64_add (a b : Int) : w64 (w64 a + b) = w64 (a + b) := by
 obtain ⟨k, e⟩ := w64_cong a
 rw [e, show a + 18446744073709551616 * k + b = a + b + 18446744073709551616 * k by omega, w64_per]
theorem w64_sub (a b : Int) : w64 (w64 a - b) = w64 (a - b) := by
 have := w64_add a (-b)
 rw [show w64 a + -b = w64 a - b by omega, show a + -b = a - b by omega] at this
 exact this
theorem w64_sub1 (a b : Int) : w64 (w64 (a - b) - 1) = w64 (w64 (a - 1) - b) := by
 rw [w64_sub, w64_sub]
 congr 1; omega
theorem ps_b2 (a0 : List Int) (x7 : List Int × Int) : spec_PowerSums_b2 a0 x7 = impl_PowerSums_b2 a0 x7 := by
 funext x18
 simp only [spec_PowerSums_b2, impl_PowerSums_b2, w64_sub1]
theorem ps_b1 (a0 : List Int) (a1 : Int) : spec_PowerSums_b1 a0 a1 = impl_PowerSums_b1 a0 a1 := by
 funext x7
 simp only [spec_PowerSums_b1, impl_PowerSums_b1, ps_b2]
 rfl
def isPol (p : List Int) : Bool := isPoly p && ((p.length : Int) == 0 || p.getLastD 0 != 0)
theorem idx_last {p : List Int} (h0 : p ≠ []) (h : p.length ≤ 9) : idxO p (w64 ((p.length : Int) - 1)) = some (p.getLastD 0) := by
 have hl : 0 < p.length := List.length_pos_iff.2 h0
 rw [w64_id (by omega) (by omega), show (p.length : Int) - 1 = ((p.length - 1 : Nat) : Int) by omega, idxO_nat, List.getLastD_eq_getLast?, List.getLast?_eq_getElem?]
 rw [List.getElem?_eq_getElem (by omega)]
 rfl
theorem spec_poGood_eq (p : List Int) (hl : p.length ≤ 4611686018427387904) : spec_poGood p = some (isPol p) := by
 unfold spec_poGood isPol isPoly
 by_cases h9 : (p.length : Int) > 9
 ·have : ¬ (p.length : Int) ≤ 9 := by omega
  simp [h9, this]
 ·have h9' : (p.length : Int) ≤ 9 := by omega
  simp only [h9, h9', decide_false, decide_true, Bool.false_eq_true, if_false, spec_l1All_eq p _ _ hl, Option.bind_some, Bool.true_and]
  cases p.all (inB (-1000000) 1000000)
  ·rfl
  ·simp only [Bool.not_true, Bool.false_eq_true, if_false, Bool.true_and]
   by_cases h0 : p = []
   ·subst h0; rfl
   ·have : ((p.length : Int) == 0) = false := by
     have := List.length_pos_iff.2 h0
     simp; exact h0
    rw [this, idx_last h0 (by omega)]
    simp
theorem impl_isPolynomial_eq (p : List Int) (hl : p.length ≤ 4611686018427387904) : impl_isPolynomial p = some (isPol p) := by
 unfold impl_isPolynomial isPol isPoly
 have hc := slices_ContainsFunc_Lint_int_eq p (fun x0 => impl_isPolynomial_1 x0) (fun x => !inB (-1000000) 1000000 x) (fun x => by simp [impl_isPolynomial_1, impl_within_eq]) hl
 by_cases h9 : (p.length : Int) ≤ 9
 ·simp only [h9, decide_true, if_true, hc, Option.bind_some, List.any_eq_not_all_not, Bool.not_not, Bool.true_and]
  cases p.all (inB (-1000000) 1000000)
  ·rfl
  ·simp only [if_true, Bool.true_and]
   by_cases h0 : p = []
   ·subst h0; rfl
   ·have : ((p.length : Int) == 0) = false := by simp; exact h0
    rw [this, idx_last h0 (by omega)]
    simp
 ·simp [h9]
def isMon (p : List Int) : Bool := decide ((p.length : Int) > 0) && p.getLastD 0 == 1
theorem spec_poMonic_eq (p : List Int) (h : isPol p = true) : spec_poMonic p = some (isMon p) := by
 unfold spec_poMonic isMon
 simp only [isPol, isPoly, Bool.and_eq_true, decide_eq_true_eq] at h
 by_cases h0 : p = []
 ·subst h0; rfl
 ·have : (p.length : Int) > 0 := by have := List.length_pos_iff.2 h0; omega
  simp only [this, decide_true, if_true, idx_last h0 (by omega), Option.bind_some, Bool.true_and]
theorem impl_isMonic_eq (p : List Int) (h : isPol p = true) : impl_isMonic p = some (isMon p) := spec_poMonic_eq p h
def psAsk (p : List Int) (k : Int) : Bool := isPol p && (isMon p && (decide (2 ≤ (p.length : Int)) && inB 1 12 k))
theorem both_PowerSums (p : List Int) (k : Int) (hl : p.length ≤ 4611686018427387904) : ∃ r, r.1.length ≤ 12 ∧ spec_PowerSums p k = some r ∧ impl_PowerSums p k = some r := by
 have key : psAsk p k = true → Tot (loopO (impl_PowerSums_b1 p k) ([], 1)) fun y => match y with | .inl r => r.1.length ≤ 12 | .inr l => l.length ≤ 12 := by
  intro ha
  simp only [psAsk, isPol, isPoly, isMon, Bool.and_eq_true, decide_eq_true_eq, inB_iff] at ha
  obtain ⟨⟨⟨h9, _⟩, _⟩, ⟨h0, _⟩, h2, k1, k12⟩ := ha
  have ew : w64 ((p.length : Int) - 1) = (p.length : Int) - 1 := w64_id (by omega) (by omega)
  refine Tot.loop (fun x => 1 ≤ x.2 ∧ x.2 ≤ 13 ∧ (x.1.length : Int) = x.2 - 1) (fun x => (14 - x.2).toNat) (fun x ⟨i1, i2, il⟩ => ?_) _ ⟨by decide, by decide, by decide⟩
  obtain ⟨out, j⟩ := x
  simp only at i1 i2 il
  unfold impl_PowerSums_b1
  refine Tot.ite (fun hj => ?_) (fun hj => Tot.inr (by show out.length ≤ 12; omega))
  have hj' : j ≤ k := of_decide_eq_true hj
  refine Tot.bind (P := fun _ => True) ?_ fun s _ => ?_
  ·refine Tot.loop (fun x => 1 ≤ x.2 ∧ x.2 ≤ 13) (fun x => (14 - x.2).toNat) (fun x ⟨m1, m2⟩ => ?_) _ ⟨by decide, by decide⟩
   obtain ⟨s, i⟩ := x
   simp only at m1 m2
   unfold impl_PowerSums_b2
   refine Tot.ite (fun hc => ?_) (fun hc => Tot.inr trivial)
   simp only [Bool.and_eq_true, decide_eq_true_eq, ew] at hc
   have e1 : w64 ((p.length : Int) - 1 - i) = (p.length : Int) - 1 - i := w64_id (by omega) (by omega)
   have e2 : w64 (w64 (j - i) - 1) = j - i - 1 := by rw [w64_id (n := j - i) (by omega) (by omega), w64_id (by omega) (by omega)]
   have e3 : w64 (i + 1) = i + 1 := w64_id (by omega) (by omega)
   simp only [ew, e1, e2, e3]
   refine Tot.idx (by omega) (by omega) fun _ _ => Tot.idx (by omega) (by omega) fun _ _ => Tot.inl ⟨⟨by show 1 ≤ i + 1; omega, by show i + 1 ≤ 13; omega⟩, by show (14 - (i + 1)).toNat < (14 - i).toNat; omega⟩
  ·have k4 : ∀ z : Int, Tot (impl_PowerSums_k4 (out, j) z) (Lp (fun x' : List Int × Int => (1 ≤ x'.2 ∧ x'.2 ≤ 13 ∧ (x'.1.length : Int) = x'.2 - 1) ∧ (14 - x'.2).toNat < (14 - j).toNat) (fun y : (List Int × Bool) ⊕ List Int => match y with | .inl r => r.1.length ≤ 12 | .inr l => l.length ≤ 12)) := by
    intro z
    unfold impl_PowerSums_k4
    rw [impl_within_eq, Option.bind_some]
    refine Tot.ite (fun _ => Tot.inr (by simp)) (fun _ => Tot.guard (by simp; omega) ?_)
    unfold impl_PowerSums_k2
    have e3 : w64 (j + 1) = j + 1 := w64_id (by omega) (by omega)
    simp only [e3]
    exact Tot.inl ⟨⟨by show 1 ≤ j + 1; omega, by show j + 1 ≤ 13; omega, by simp; omega⟩, by show (14 - (j + 1)).toNat < _; omega⟩
   unfold impl_PowerSums_k3
   refine Tot.ite (fun hc => ?_) (fun hc => k4 s)
   have hc' := of_decide_eq_true hc
   rw [ew] at hc'
   have e1 : w64 ((p.length : Int) - 1 - j) = (p.length : Int) - 1 - j := w64_id (by omega) (by omega)
   simp only [ew, e1]
   simp only at hc'
   exact Tot.idx (by omega) (by omega) fun _ _ => k4 _
 have pre1 : spec_PowerSums p k = if psAsk p k = true then (loopO (impl_PowerSums_b1 p k) ([], 1)).bind fun y8 => (Sum.elim (fun p => some p) (fun p => some (p, true))) y8 else some ([], false) := by
  unfold spec_PowerSums psAsk
  rw [spec_poGood_eq p hl]
  cases h1 : isPol p
  ·rfl
  ·rw [spec_poMonic_eq p h1]
   simp only [Option.bind_some, Bool.not_true, Bool.false_eq_true, if_false, Bool.true_and]
   cases h2 : isMon p
   ·rfl
   ·simp only [Bool.not_true, Bool.false_eq_true, if_false, Bool.true_and]
    by_cases h3 : (p.length : Int) < 2
    ·have : ¬ 2 ≤ (p.length : Int) := by omega
     simp [h3, this]
    ·have : 2 ≤ (p.length : Int) := by omega
     simp only [h3, this, decide_false, decide_true, Bool.false_eq_true, if_false, spec_zeLength, spec_l1In_eq, Option.bind_some, Bool.true_and, ps_b1]
     cases inB 1 12 k <;> rfl
 have pre2 : impl_PowerSums p k = if psAsk p k = true then (loopO (impl_PowerSums_b1 p k) ([], 1)).bind fun y8 => (Sum.elim (fun p => some p) (fun p => some (p, true))) y8 else some ([], false) := by
  unfold impl_PowerSums psAsk
  rw [impl_isPolynomial_eq p hl]
  cases h1 : isPol p
  ·rfl
  ·rw [impl_isMonic_eq p h1]
   simp only [Option.bind_some, Bool.not_true, Bool.false_eq_true, if_false, Bool.true_and]
   cases h2 : isMon p
   ·rfl
   ·have h9 : (p.length : Int) ≤ 9 := by
     simp only [isPol, isPoly, Bool.and_eq_true, decide_eq_true_eq] at h1; omega
    simp only [Bool.not_true, Bool.false_eq_true, if_false, Bool.true_and, w64_id (n := (p.length : Int) - 1) (by omega) (by omega)]
    by_cases h3 : (p.length : Int) - 1 < 1
    ·have : ¬ 2 ≤ (p.length : Int) := by omega
     simp [h3, this]
    ·have : 2 ≤ (p.length : Int) := by omega
     simp only [h3, this, decide_false, decide_true, Bool.false_eq_true, if_false, impl_within_eq, Option.bind_some, Bool.true_and]
     cases inB 1 12 k <;> rfl
 rw [pre1, pre2]
 cases ha : psAsk p k
 ·exact ⟨([], false), by simp, rfl, rfl⟩
 ·obtain ⟨y, e, hy⟩ := key ha
  simp only [if_true, e, Option.bind_some]
  cases y with
  | inl r => exact ⟨r, hy, rfl, rfl⟩
  | inr l => exact ⟨(l, true), hy, rfl, rfl⟩
theorem ep_b3 (x10 : List Int × Int) (h : -9223372036854775808 ≤ x10.2 + 1 ∧ x10.2 + 1 ≤ 9223372036854775807) : spec_EulerProduct_b3 x10 = impl_EulerProduct_b3 x10 := by
 funext x19
 have e : w64 (x10.2 + 1) = x10.2 + 1 := w64_id h.1 h.2
 have e2 : decide (x19.2 ≥ x10.2 + 1) = decide (x19.2 > x10.2) := by
  rw [Bool.eq_iff_iff, decide_eq_true_eq, decide_eq_true_eq]; omega
 have e3 : w64 (w64 (x19.2 - x10.2) - 1) = w64 (x19.2 - (x10.2 + 1)) := by
  rw [w64_sub]; congr 1; omega
 simp only [spec_EulerProduct_b3, impl_EulerProduct_b3, e, e2, e3]
theorem ep_f {a : List Int} {i : Int} (hi : 0 ≤ i) (hl : a.length ≤ 8) {x0 : List Int} (hx0 : x0.length = a.length + 1) {x1 : List Int} : Tot (loopO (impl_EulerProduct_b3 (x1, i)) (x0, (a.length : Int))) fun y => y.length = a.length + 1 := by
 refine Tot.loop (fun x => x.1.length = a.length + 1 ∧ x.2 ≤ (a.length : Int) ∧ -1 ≤ x.2) (fun x => (x.2 + 1).toNat) (fun x ⟨xl, x2, x3⟩ => ?_) _ ⟨hx0, Int.le_refl _, by show -1 ≤ (a.length : Int); omega⟩
 obtain ⟨o, d⟩ := x
 simp only at xl x2 x3
 unfold impl_EulerProduct_b3
 refine Tot.ite (fun hd => ?_) (fun hd => Tot.inr xl)
 have hd' : d > i := of_decide_eq_true hd
 have e1 : w64 (w64 (d - i) - 1) = d - i - 1 := by rw [w64_id (n := d - i) (by omega) (by omega), w64_id (by omega) (by omega)]
 have e2 : w64 (d - 1) = d - 1 := w64_id (by omega) (by omega)
 simp only [e1, e2]
 exact Tot.idx (by omega) (by omega) fun _ _ => Tot.idx (by omega) (by omega) fun _ _ => Tot.inl ⟨⟨by simp [xl], by show d - 1 ≤ _; omega, by show -1 ≤ d - 1; omega⟩, by show (d - 1 + 1).toNat < (d + 1).toNat; omega⟩
theorem ep_c {a : List Int} {i : Int} (hi : 0 ≤ i) (hi2 : i ≤ 8) (hl : a.length ≤ 8) {x1 : List Int} (v : Int) (v1 : v ≤ 100) : ∀ (m : Nat) {x0 : List Int}, x0.length = a.length + 1 → (m : Int) ≤ v → ∃ y : List Int, y.length = a.length + 1 ∧
  loopO (impl_EulerProduct_b2 a (x1, i) v) (x0, v - m) = some y ∧ loopO (spec_EulerProduct_b2 a (x1, i)) (x0, (m : Int)) = some y
 | 0, x0, h0, hm => by
  refine ⟨x0, h0, ?_, ?_⟩
  ·rw [loopO_eq]
   have : ¬ (v - ((0 : Nat) : Int) < v) := by omega
   simp only [impl_EulerProduct_b2, this, decide_false, Bool.false_eq_true, if_false]
  ·rw [loopO_eq]
   simp [spec_EulerProduct_b2]
 | m + 1, x0, h0, hm => by
  obtain ⟨y, e, hy⟩ := ep_f (x1 := x1) hi hl h0
  obtain ⟨z, hz, e1, e2⟩ := ep_c hi hi2 hl (x1 := x1) v v1 m hy (by omega)
  refine ⟨z, hz, ?_, ?_⟩
  ·rw [loopO_eq]
   have : v - ((m + 1 : Nat) : Int) < v := by omega
   have hw : w64 (v - ((m + 1 : Nat) : Int) + 1) = v - m := by rw [w64_id (by omega) (by omega)]; omega
   simp only [impl_EulerProduct_b2, this, decide_true, if_true, e, Option.bind_some, impl_EulerProduct_k3, hw]
   exact e1
  ·rw [loopO_eq]
   have : ((m + 1 : Nat) : Int) > 0 := by omega
   have hw : w64 (((m + 1 : Nat) : Int) - 1) = m := by rw [w64_id (by omega) (by omega)]; omega
   simp only [spec_EulerProduct_b2, this, decide_true, if_true, ep_b3 (x1, i) ⟨by show _ ≤ i + 1; omega, by show i + 1 ≤ _; omega⟩, e, Option.bind_some, spec_EulerProduct_k3, hw]
   exact e2
def epAsk (a : List Int) : Bool := inB 1 8 a.length && a.all (inB 0 100)
theorem ep_all {a : List Int} (ha : epAsk a = true) : ∀ (m i : Nat), i + m = a.length → ∀ (x0 : List Int), x0.length = a.length + 1 → ∃ y : List Int, y.length = a.length + 1 ∧
  loopO (impl_EulerProduct_b1 a) (x0, (i : Int)) = some y ∧ loopO (spec_EulerProduct_b1 a) (x0, (i : Int)) = some y := by
 simp only [epAsk, Bool.and_eq_true, inB_iff, List.all_eq_true] at ha
 obtain ⟨⟨l1, l8⟩, hv⟩ := ha
 intro m
 induction m with
 | zero =>
  intro i hi x0 h0
  have : ¬ (i : Int) < (a.length : Int) := by omega
  refine ⟨x0, h0, ?_, ?_⟩
  ·rw [loopO_eq]; simp only [impl_EulerProduct_b1, this, decide_false, Bool.false_eq_true, if_false]
  ·rw [loopO_eq]; simp only [spec_EulerProduct_b1, this, decide_false, Bool.false_eq_true, if_false]
 | succ m ih =>
  intro i hi x0 h0
  have hlt : i < a.length := by omega
  have hvi := hv a[i] (List.getElem_mem hlt)
  obtain ⟨c, hc⟩ := Int.eq_ofNat_of_zero_le hvi.1
  obtain ⟨y, hy, e1, e2⟩ := ep_c (a := a) (i := (i : Int)) (by omega) (by omega) (by omega) (x1 := x0) a[i] (by omega) c h0 (by omega)
  obtain ⟨z, hz, e3, e4⟩ := ih (i + 1) (by omega) y hy
  rw [show a[i] - (c : Int) = 0 by omega] at e1
  rw [← hc] at e2
  refine ⟨z, hz, ?_, ?_⟩
  ·rw [loopO_eq]
   simp only [impl_EulerProduct_b1, show ((i : Int) < (a.length : Int)) from by omega, decide_true, if_true, idxO_lt hlt, Option.bind_some, e1, impl_EulerProduct_k2, w64_nat (show i < 9223372036854775807 by omega)]
   exact e3
  ·rw [loopO_eq]
   simp only [spec_EulerProduct_b1, show ((i : Int) < (a.length : Int)) from by omega, decide_true, if_true, idxO_lt hlt, Option.bind_some, e2, spec_EulerProduct_k2, w64_nat (show i < 9223372036854775807 by omega)]
   exact e4
theorem both_EulerProduct (a : List Int) (hl : a.length ≤ 4611686018427387904) : ∃ r, r.1.length ≤ 9 ∧ spec_EulerProduct a = some r ∧ impl_EulerProduct a = some r := by
 have pre1 : spec_EulerProduct a = if epAsk a = true then (loopO (spec_EulerProduct_b1 a) ((List.replicate (a.length + 1) (0 : Int)).set 0 1, 0)).bind fun y11 => spec_EulerProduct_k1 y11 else some ([], false) := by
  unfold spec_EulerProduct epAsk
  rw [spec_l1In_eq, Option.bind_some]
  cases h1 : inB 1 8 (a.length : Int)
  ·rfl
  ·have := inB_iff.1 h1
   simp only [Bool.not_true, Bool.false_eq_true, if_false, spec_l1All_eq a _ _ hl, Option.bind_some, Bool.true_and]
   cases a.all (inB 0 100)
   ·rfl
   ·simp only [Bool.not_true, Bool.false_eq_true, if_false, if_true, w64_id (n := (a.length : Int) + 1) (by omega) (by omega)]
    rw [guardO_bind_pos (by omega), show (a.length : Int) + 1 = ((a.length + 1 : Nat) : Int) by omega, Int.toNat_natCast, rep_tab, show (0 : Int) = ((0 : Nat) : Int) from rfl, idxO_tab (by omega)]
    rfl
 have pre2 : impl_EulerProduct a = if epAsk a = true then (loopO (impl_EulerProduct_b1 a) ((List.replicate (a.length + 1) (0 : Int)).set 0 1, 0)).bind fun y11 => impl_EulerProduct_k1 y11 else some ([], false) := by
  unfold impl_EulerProduct epAsk
  rw [impl_within_eq, Option.bind_some]
  cases h1 : inB 1 8 (a.length : Int)
  ·rfl
  ·have := inB_iff.1 h1
   have hc := slices_ContainsFunc_Lint_int_eq a (fun x0 => impl_EulerProduct_1 x0) (fun x => !inB 0 100 x) (fun x => by simp [impl_EulerProduct_1, impl_within_eq]) hl
   simp only [Bool.not_true, Bool.false_eq_true, if_false, hc, List.any_eq_not_all_not, Bool.not_not, Option.bind_some, Bool.true_and]
   cases a.all (inB 0 100)
   ·rfl
   ·simp only [Bool.not_true, Bool.false_eq_true, if_false, if_true, w64_id (n := (a.length : Int) + 1) (by omega) (by omega)]
    rw [guardO_bind_pos (by omega), show (a.length : Int) + 1 = ((a.length + 1 : Nat) : Int) by omega, Int.toNat_natCast, rep_tab, show (0 : Int) = ((0 : Nat) : Int) from rfl, idxO_tab (by omega)]
    rfl
 rw [pre1, pre2]
 cases ha : epAsk a
 ·exact ⟨([], false), by simp, rfl, rfl⟩
 ·obtain ⟨y, hy, e1, e2⟩ := ep_all ha a.length 0 (by omega) ((List.replicate (a.length + 1) (0 : Int)).set 0 1) (by simp)
  have h8 : a.length ≤ 8 := by
   simp only [epAsk, Bool.and_eq_true, inB_iff] at ha; omega
  have e1' : loopO (impl_EulerProduct_b1 a) ((List.replicate (a.length + 1) (0 : Int)).set 0 1, 0) = some y := e1
  have e2' : loopO (spec_EulerProduct_b1 a) ((List.replicate (a.length + 1) (0 : Int)).set 0 1, 0) = some y := e2
  have hc := slices_ContainsFunc_Lint_int_eq y (fun x0 => impl_EulerProduct_2 x0) (fun x => !inB (-1000000) 1000000 x) (fun x => by simp [impl_EulerProduct_2, impl_within_eq]) (by omega)
  simp only [if_true, e1', e2', Option.bind_some, spec_EulerProduct_k1, impl_EulerProduct_k1, spec_l1All_eq y _ _ (by omega), hc, List.any_eq_not_all_not, Bool.not_not]
  cases y.all (inB (-1000000) 1000000)
  ·exact ⟨([], false), by simp, rfl, rfl⟩
  ·exact ⟨(y, true), by show y.length ≤ 9; omega, rfl, rfl⟩
end Go.PV

/-
 Plain laws: what draws polynomials and counts always comes to an end.
 Conditions: none.
-/
set_option linter.all false
namespace Go.PV
theorem poTrim_ok (p : List Int) (hl : p.length ≤ 1048576) : Tot (spec_poTrim p) fun r => r.length ≤ p.length := by
 have l1 := trim_loop (body := spec_poTrim_b1) (fun x => rfl) p.length p rfl hl
 have hT := trimZ_len p
 unfold spec_poTrim
 rw [l1]
 simp only [Option.bind_some, spec_poTrim_k1, spec_l1Own]
 rw [guardO_bind_pos (by omega)]
 exact Tot.ret hT
theorem poly_ok {B : Nat} (hB : B ≤ 200000000) {c : Cur} (hc : Ck B c) : Tot (spec_l1Cur_poly c) fun r => r.1.length ≤ 9 ∧ Ck (B + 100) r.2 := by
 have k1 : ∀ (B' : Nat) (x2 : List Int × Int × Int × Int), B' + 60 ≤ B + 100 → x2.2.2.2 ≤ 9 → Ck B' (cur4 x2) → Tot (spec_l1Cur_poly_k1 x2) fun r => r.1.length ≤ 9 ∧ Ck (B + 100) r.2 := by
  intro B' x2 hB' h9 hc
  unfold spec_l1Cur_poly_k1
  refine Tot.bind (P := fun y : List Int × Int × Int × List Int => y.2.2.2.length ≤ 9 ∧ Ck (B' + 60) (cur4 y)) ?_ fun y ⟨hy, hyc⟩ => ?_
  ·refine Tot.loop (fun x => x.2.2.2.length ≤ 9 ∧ Ck (B' + 6 * x.2.2.2.length) (cur4 x)) (fun x => 9 - x.2.2.2.length) (fun x ⟨il, ic⟩ => ?_) _ ⟨by simp, by simpa [cur4] using hc⟩
   obtain ⟨c1, c2, c3, l⟩ := x
   simp only [cur4] at il ic ⊢
   unfold spec_l1Cur_poly_b1
   refine Tot.ite (fun hk => ?_) (fun hk => Tot.inr ⟨il, ic.mono (by omega)⟩)
   have hk' : (l.length : Int) < x2.2.2.2 := of_decide_eq_true hk
   refine (pick_ok ic (by omega) _).bind fun v8 ⟨_, h8⟩ => ?_
   refine (among_ok h8 (by omega) _ (by simp)).bind fun v9 ⟨_, h9⟩ => ?_
   refine (among_ok h9 (by omega) _ (by simp)).bind fun v10 ⟨_, h10⟩ => ?_
   refine Tot.guard (by simp; omega) (Tot.inl ⟨⟨by simp; omega, ?_⟩, by simp; omega⟩)
   exact Ck.mono (c := v10.2) h10 (by simp; omega)
  ·unfold spec_l1Cur_poly_k2
   exact (poTrim_ok _ (by omega)).bind fun v4 h4 => Tot.ret ⟨by show v4.length ≤ 9; omega, Ck.mono (c := cur4 y) hyc (by omega)⟩
 unfold spec_l1Cur_poly
 refine (pick_ok hc (by omega) _).bind fun v1 ⟨⟨a1, a2⟩, h1⟩ => ?_
 refine (one_ok h1 (by omega) _).bind fun v12 h12 => ?_
 have := a2 (by omega)
 exact Tot.ite (fun _ => k1 _ _ (by omega : B + 2 + 2 + 60 ≤ B + 100) (by show (9 : Int) ≤ 9; omega) h12) (fun _ => k1 _ _ (by omega : B + 2 + 2 + 60 ≤ B + 100) (by show v1.1 ≤ 9; omega) h12)
theorem anyPoly_ok {B : Nat} (hB : B ≤ 200000000) {c : Cur} (hc : Ck B c) : Tot (spec_l1Cur_anyPoly c) fun r => r.1.length ≤ 10 ∧ Ck (B + 140) r.2 := by
 unfold spec_l1Cur_anyPoly spec_l1Cur_anyPoly_k1
 refine (poly_ok hB hc).bind fun v1 ⟨hl, h1⟩ => ?_
 refine (pick_ok h1 (by omega) _).bind fun v3 ⟨_, h3⟩ => ?_
 refine Tot.ite (fun _ => Tot.guard (by simp; omega) (Tot.ret ⟨by simp; omega, Ck.mono (c := v3.2) h3 (by omega)⟩)) (fun _ => Tot.ite (fun _ => ?_) (fun _ => Tot.ite (fun _ => ?_) (fun _ => Tot.ret ⟨by show v1.1.length ≤ 10; omega, Ck.mono (c := v3.2) h3 (by omega)⟩)))
 ·exact (among_ok h3 (by omega) _ (by simp)).bind fun v7 ⟨_, h7⟩ => Tot.guard (by simp; omega) (Tot.ret ⟨by simp; omega, Ck.mono (c := v7.2) h7 (by omega)⟩)
 ·refine Tot.bind (P := fun y : List Int × Int × Int × List Int => y.2.2.2.length ≤ 10 ∧ Ck (B + 102 + 24) (cur4 y)) ?_ fun y ⟨hy, hyc⟩ => Tot.ret ⟨hy, Ck.mono (c := cur4 y) hyc (by omega)⟩
  refine Tot.loop (fun x => x.2.2.2.length ≤ 10 ∧ Ck (B + 102 + 2 * x.2.2.2.length) (cur4 x)) (fun x => 10 - x.2.2.2.length) (fun x ⟨il, ic⟩ => ?_) _ ⟨by show v1.1.length ≤ 10; omega, Ck.mono (c := v3.2) h3 (by omega)⟩
  obtain ⟨c1, c2, c3, l⟩ := x
  simp only [cur4] at il ic ⊢
  unfold spec_l1Cur_anyPoly_b1
  refine (pick_ok ic (by omega) _).bind fun v12 ⟨⟨a1, a2⟩, h12⟩ => ?_
  have a3 := a2 (by omega)
  refine Tot.ite (fun hk => ?_) (fun hk => Tot.inr ⟨il, Ck.mono (c := v12.2) h12 (by omega)⟩)
  have hk' := of_decide_eq_true hk
  rw [w64_id (by omega) (by omega)] at hk'
  simp only at hk'
  refine Tot.guard (by simp; omega) (Tot.inl ⟨⟨by simp; omega, ?_⟩, by simp; omega⟩)
  exact Ck.mono (c := v12.2) h12 (by simp; omega)
theorem monicPoly_ok {B : Nat} (hB : B ≤ 100000000) {c : Cur} (hc : Ck B c) : Tot (spec_l1Cur_monicPoly c) fun r => r.1.length ≤ 10 ∧ Ck (B + 160) r.2 := by
 have k1 : ∀ (B' : Nat) (x2 : List Int × Int × Int × Int), B' + 60 ≤ B + 100 → x2.2.2.2 ≤ 8 → Ck B' (cur4 x2) → Tot (spec_l1Cur_monicPoly_k1 x2) fun r => r.1.length ≤ 10 ∧ Ck (B + 160) r.2 := by
  intro B' x2 hB' h9 hc
  unfold spec_l1Cur_monicPoly_k1
  refine Tot.bind (P := fun y : List Int × Int × Int × List Int => y.2.2.2.length ≤ 8 ∧ Ck (B' + 60) (cur4 y)) ?_ fun y ⟨hy, hyc⟩ => ?_
  ·refine Tot.loop (fun x => x.2.2.2.length ≤ 8 ∧ Ck (B' + 4 * x.2.2.2.length) (cur4 x)) (fun x => 8 - x.2.2.2.length) (fun x ⟨il, ic⟩ => ?_) _ ⟨by simp, by simpa [cur4] using hc⟩
   obtain ⟨c1, c2, c3, l⟩ := x
   simp only [cur4] at il ic ⊢
   unfold spec_l1Cur_monicPoly_b1
   refine Tot.ite (fun hk => ?_) (fun hk => Tot.inr ⟨il, ic.mono (by omega)⟩)
   have hk' : (l.length : Int) < x2.2.2.2 := of_decide_eq_true hk
   refine (among_ok ic (by omega) _ (by simp)).bind fun v9 ⟨_, h9⟩ => ?_
   refine (among_ok h9 (by omega) _ (by simp)).bind fun v10 ⟨_, h10⟩ => ?_
   refine Tot.guard (by simp; omega) (Tot.inl ⟨⟨by simp; omega, ?_⟩, by simp; omega⟩)
   exact Ck.mono (c := v10.2) h10 (by simp; omega)
  ·unfold spec_l1Cur_monicPoly_k2
   exact Tot.guard (by simp; omega) (Tot.ret ⟨by simp; omega, Ck.mono (c := cur4 y) hyc (by omega)⟩)
 unfold spec_l1Cur_monicPoly
 refine (one_ok hc (by omega) _).bind fun v1 h1 => ?_
 refine Tot.ite (fun _ => (anyPoly_ok (B := B + 2) (by omega) h1).bind fun v3 ⟨a, b⟩ => Tot.ret ⟨a, b.mono (by omega)⟩) (fun _ => ?_)
 refine (pick_ok h1 (by omega) _).bind fun v4 ⟨⟨a1, a2⟩, h4⟩ => ?_
 have a3 := a2 (by omega)
 refine (one_ok h4 (by omega) _).bind fun v14 h14 => ?_
 exact Tot.ite (fun _ => k1 _ _ (by omega : B + 2 + 2 + 2 + 60 ≤ B + 100) (by show (8 : Int) ≤ 8; omega) h14) (fun _ => k1 _ _ (by omega : B + 2 + 2 + 2 + 60 ≤ B + 100) (by show w64 (1 + v4.1) ≤ 8; rw [w64_id (by omega) (by omega)]; omega) h14)
theorem DrawCompanionGraph_ok {l : List Int} (h : Bytes l) : Tot (spec_DrawCompanionGraph l) fun r => r.length ≤ 10 := by
 unfold spec_DrawCompanionGraph
 exact (monicPoly_ok (by omega) (ck0 h)).bind fun v ⟨a, _⟩ => Tot.ret a
theorem DrawPowerSums_ok {l : List Int} (h : Bytes l) : Tot (spec_DrawPowerSums l) fun r => r.1.length ≤ 10 := by
 unfold spec_DrawPowerSums
 refine (monicPoly_ok (by omega) (ck0 h)).bind fun v ⟨a, h1⟩ => ?_
 refine (among_ok h1 (by omega) _ (by simp)).bind fun v9 ⟨_, h9⟩ => ?_
 exact (among_ok h9 (by omega) _ (by simp)).bind fun v10 ⟨_, h10⟩ => Tot.ret a
theorem DrawCycleCount_ok {l : List Int} (h : Bytes l) : Tot (spec_DrawCycleCount l) fun r => Sm r.1 := by
 unfold spec_DrawCycleCount
 refine (anyGraph_ok (by omega) (ck0 h)).bind fun v ⟨a, h1⟩ => ?_
 refine (among_ok h1 (by omega) _ (by simp)).bind fun v9 ⟨_, h9⟩ => ?_
 exact (among_ok h9 (by omega) _ (by simp)).bind fun v10 ⟨_, h10⟩ => Tot.ret a
theorem DrawIsNilpotent_ok {l : List Int} (h : Bytes l) : Tot (spec_DrawIsNilpotent l) fun r => Sm r := by
 unfold spec_DrawIsNilpotent spec_DrawIsNilpotent_k1
 refine (anyGraph_ok (by omega) (ck0 h)).bind fun v1 ⟨a, h1⟩ => ?_
 rw [spec_grGood_eq _ a.sized, Option.bind_some]
 refine Tot.bind (P := fun b => b = true → isGraph v1.1 = true) ?_ fun w hw => ?_
 ·exact Tot.ite (fun hb => (one_ok h1 (by omega) _).bind fun v4 _ => Tot.ret fun _ => hb) (fun _ => Tot.ret fun h => by cases h)
 ·refine Tot.ite (fun hb => ?_) (fun _ => Tot.ret a)
  obtain ⟨n, G, n1, n8, e, hG⟩ := isGraph_mat (hw hb)
  refine Tot.bind (P := fun y => Sm y) ?_ fun y hy => Tot.ret hy
  have hsm : ∀ {x : List (List Int)}, (x.length = n ∧ ∀ row ∈ x, row.length = n) → Sm x := fun h => ⟨by have := h.1; omega, fun row hr => by have := h.2 row hr; omega⟩
  have hln : v1.1.length = n := by rw [e, mat_len]
  refine Tot.loop (fun x => (x.1.length = n ∧ ∀ row ∈ x.1, row.length = n) ∧ 0 ≤ x.2 ∧ x.2 ≤ (n : Int)) (fun x => ((n : Int) - x.2).toNat) (fun x ⟨hx, i0, i1⟩ => ?_) _ ⟨⟨hln, fun row hr => by
   rw [e] at hr
   obtain ⟨i, _, rfl⟩ := tab_mem.1 hr
   exact tab_len _ _⟩, by simp, by show (0 : Int) ≤ n; omega⟩
  obtain ⟨g, i⟩ := x
  simp only at hx i0 i1
  unfold spec_DrawIsNilpotent_b1
  refine Tot.ite (fun hk => ?_) (fun hk => Tot.inr (hsm hx))
  have hk' : i < (v1.1.length : Int) := of_decide_eq_true hk
  rw [hln] at hk'
  refine Tot.bind (P := fun y => y.length = n ∧ ∀ row ∈ y, row.length = n) ?_ fun y hy => ?_
  ·refine Tot.loop (fun z => (z.1.length = n ∧ ∀ row ∈ z.1, row.length = n) ∧ 0 ≤ z.2 ∧ z.2 ≤ i + 1) (fun z => (i + 1 - z.2).toNat) (fun z ⟨hz, j0, j1⟩ => ?_) _ ⟨hx, by simp, by show (0 : Int) ≤ i + 1; omega⟩
   obtain ⟨g2, j⟩ := z
   simp only at hz j0 j1
   unfold spec_DrawIsNilpotent_b2
   refine Tot.ite (fun hj => ?_) (fun hj => Tot.inr hz)
   have hj' : j ≤ i := of_decide_eq_true hj
   refine Tot.idx i0 (by rw [hz.1]; exact hk') fun r2 hr2 => ?_
   have hl2 := hz.2 r2 hr2
   refine Tot.idx j0 (by rw [hl2]; show j < (n : Int); omega) fun _ _ => Tot.inl ?_
   have hw : w64 (j + 1) = j + 1 := w64_id (by omega) (by omega)
   simp only [hw]
   refine ⟨⟨⟨by rw [List.length_set]; exact hz.1, fun r hr => ?_⟩, by omega, by omega⟩, by omega⟩
   rcases mem_set hr with h' | rfl
   ·exact hz.2 r h'
   ·rw [List.length_set]; exact hl2
  ·unfold spec_DrawIsNilpotent_k2
   have hw : w64 (i + 1) = i + 1 := w64_id (by omega) (by omega)
   refine Tot.inl ?_
   simp only [hw]
   exact ⟨⟨hy, by omega, by omega⟩, by omega⟩
theorem Sq.graph {n : Int} {g : List (List Int)} (h : Sq n g) (h1 : 1 ≤ n) (h8 : n ≤ 8) : isGraph g = true := by
 unfold isGraph
 rw [h.1, Bool.and_eq_true]
 refine ⟨inB_iff.2 ⟨h1, h8⟩, List.all_eq_true.2 fun row hr => ?_⟩
 obtain ⟨a, b⟩ := h.2 row hr
 rw [Bool.and_eq_true]
 exact ⟨by simp [a], List.all_eq_true.2 fun x hx => inB_iff.2 (b x hx)⟩
theorem DrawEulerProduct_ok {l : List Int} (h : Bytes l) : Tot (spec_DrawEulerProduct l) fun r => r.length ≤ 9 := by
 unfold spec_DrawEulerProduct
 refine (one_ok (ck0 h) (by omega) _).bind fun v19 h19 => ?_
 refine Tot.ite (fun _ => ?_) (fun _ => ?_)
 ·refine (graph_ok (by omega) h19).bind fun v21 ⟨⟨n, n1, n8, hs⟩, _⟩ => ?_
  obtain ⟨m, G, m1, m8, e, hG⟩ := isGraph_mat (hs.graph n1 n8)
  refine Tot.bind (P := fun y : List Int => y.length ≤ 8) ?_ fun y hy => Tot.ret (by show y.length ≤ 9; omega)
  refine Tot.loop (fun x => 1 ≤ x.2 ∧ x.2 ≤ 9 ∧ (x.1.length : Int) = x.2 - 1) (fun x => (9 - x.2).toNat) (fun x ⟨i1, i9, il⟩ => ?_) _ ⟨by decide, by decide, by decide⟩
  obtain ⟨o, k⟩ := x
  simp only at i1 i9 il
  unfold spec_DrawEulerProduct_b2
  rw [e]
  have hz : k ≤ 8 → ∃ z, spec_zeCycles (mat m m G) k = some z := fun hk => by
   obtain ⟨q, rfl⟩ := Int.eq_ofNat_of_zero_le (show 0 ≤ k by omega)
   exact ⟨_, spec_zeCycles_eq m8 hG (by omega) (by omega)⟩
  refine Tot.bind (P := fun b => b = true → k ≤ 8) ?_ fun w hw => ?_
  ·refine Tot.ite (fun hk => ?_) (fun _ => Tot.ret fun h => by cases h)
   have hk' : k ≤ 8 := of_decide_eq_true hk
   obtain ⟨z, hz⟩ := hz hk'
   simp only [hz, Option.bind_some]
   exact Tot.ret fun _ => hk'
  ·refine Tot.ite (fun hb => ?_) (fun _ => Tot.inr (by show o.length ≤ 8; omega))
   obtain ⟨z, hz⟩ := hz (hw hb)
   have := hw hb
   simp only [hz, Option.bind_some]
   have e3 : w64 (k + 1) = k + 1 := w64_id (by omega) (by omega)
   simp only [e3]
   refine Tot.guard (by simp; omega) (Tot.inl ⟨⟨by show 1 ≤ k + 1; omega, by show k + 1 ≤ 9; omega, by simp; omega⟩, by show (9 - (k + 1)).toNat < (9 - k).toNat; omega⟩)
 ·have k2 : ∀ (B : Nat) (x3 : Int × Cur), B ≤ 100 → x3.1 ≤ 9 → Ck B x3.2 → Tot (spec_DrawEulerProduct_k2 x3) fun r => r.length ≤ 9 := by
   intro B x3 hB h9 hc
   unfold spec_DrawEulerProduct_k2
   refine Tot.bind (P := fun y : List Int × Cur => y.1.length ≤ 9 ∧ (x3.1 ≤ (y.1.length : Int)) ∧ Ck (B + 20) y.2) ?_ fun y ⟨hy, hy3, hyc⟩ => ?_
   ·refine Tot.loop (fun x => x.1.length ≤ 9 ∧ Ck (B + 2 * x.1.length) x.2) (fun x => 9 - x.1.length) (fun x ⟨il, ic⟩ => ?_) _ ⟨by simp, by simpa using hc⟩
    obtain ⟨o, c⟩ := x
    simp only at il ic
    unfold spec_DrawEulerProduct_b1
    refine Tot.ite (fun hk => ?_) (fun hk => Tot.inr ⟨il, ?_, ic.mono (by omega)⟩)
    ·have hk' : (o.length : Int) < x3.1 := of_decide_eq_true hk
     refine (among_ok ic (by omega) _ (by simp)).bind fun v14 ⟨_, h14⟩ => ?_
     refine Tot.guard (by simp; omega) (Tot.inl ⟨⟨by simp; omega, ?_⟩, by simp; omega⟩)
     exact Ck.mono (c := v14.2) h14 (by simp; omega)
    ·have hk' : ¬ (o.length : Int) < x3.1 := of_decide_eq_false hk
     show x3.1 ≤ (o.length : Int); omega
   ·unfold spec_DrawEulerProduct_k3
    refine Tot.bind (P := fun w : List Int × Int × Int × Bool => Ck (B + 22) (cur4 w) ∧ (w.2.2.2 = true → x3.1 > 0)) ?_ fun w ⟨hw, hw2⟩ => ?_
    ·refine Tot.ite (fun hb => (one_ok hyc (by omega) _).bind fun v5 h5 => Tot.ret ⟨h5, fun _ => of_decide_eq_true hb⟩) (fun _ => Tot.ret ⟨Ck.mono (c := y.2) hyc (by omega), fun h => by cases h⟩)
    ·refine Tot.ite (fun hb => ?_) (fun _ => Tot.ret hy)
     have := hw2 hb
     refine (pick_ok (c := cur4 w) hw (by omega) _).bind fun v8 ⟨⟨a1, a2⟩, h8⟩ => ?_
     refine (among_ok h8 (by omega) _ (by simp)).bind fun v9 ⟨_, h9⟩ => ?_
     exact Tot.idx a1 (by have := a2 (by omega); omega) fun _ _ => Tot.ret (by rw [List.length_set]; exact hy)
  unfold spec_DrawEulerProduct_k1
  refine (pick_ok h19 (by omega) _).bind fun v2 ⟨⟨a1, a2⟩, h2⟩ => ?_
  have a3 := a2 (by omega)
  refine (one_ok h2 (by omega) _).bind fun v16 h16 => ?_
  refine Tot.ite (fun _ => ?_) (fun _ => k2 _ _ (by omega : 0 + 2 + 2 + 2 ≤ 100) (by show w64 (1 + v2.1) ≤ 9; rw [w64_id (by omega) (by omega)]; omega) h16)
  refine (among_ok h16 (by omega) _ (by simp)).bind fun v18 ⟨m18, h18⟩ => ?_
  simp only [List.mem_cons, List.not_mem_nil, or_false] at m18
  exact k2 _ _ (by omega : 0 + 2 + 2 + 2 + 2 ≤ 100) (by omega) h18
end Go.PV

/-
 Plain law: the product of a graph and a vector.
 Conditions: none.
-/
set_option linter.all false
namespace Go.PV
end Go.PV

set_option linter.all false
namespace Go.PV
end Go.PV

/-
 Plain laws: maps of the interval.
 Conditions: none.
-/
set_option linter.all false
namespace Go.PV
section
variable {α β : Type}
end
def isMapT (n : Nat) (p : Nat → Pt) : Prop := (∀ i, i < n → coord (p i).1 = true ∧ coord (p i).2 = true) ∧ (∀ i, 0 < i → i < n → less (p (i - 1)).1 (p i).1 = true) ∧ (p 0).1 = (0, 1) ∧ (p (n - 1)).1 = (1, 1)
end Go.PV

/-
 Plain laws: the variation of a map.
 Conditions: none.
-/
set_option linter.all false
namespace Go.PV
def sumD (r : Nat → Rt) : Nat → Option Rt
 | 0 => some (0, 1)
 | k + 1 => (sumD r k).bind fun s => (distQ (r k) (r (k + 1))).bind fun d => addQ s d
end Go.PV

/-
 Plain laws: slopes and laps of a map.
 Conditions: none.
-/
set_option linter.all false
namespace Go.PV
structure LowOk (n d : Int) (r : Rt) : Prop where
 eq : lowQ n d = some r
 rat : isRat r = true
 num : r.1.natAbs ≤ n.natAbs
 den : 1 ≤ r.2 ∧ r.2 ≤ d
 pos : 0 < n → 0 < r.1
 neg : n < 0 → r.1 < 0
 zer : n = 0 → r.1 = 0
theorem lowQ_some_nonneg {n d : Int} (h1 : 0 ≤ n) (h2 : n ≤ 1000000000) (h3 : 1 ≤ d) (h4 : d ≤ 1000000000) : ∃ r, LowOk n d r := by
 have hg : 0 < Int.gcd n d := Int.gcd_pos_of_ne_zero_right _ (by omega)
 have hdn : ¬ d < 0 := by omega
 have hr := lowest_isRat h1 h2 h3 h4
 have e : lowest n d = if isRat (Int.tdiv n (Int.gcd n d : Int), Int.tdiv d (Int.gcd n d : Int)) = true then ((Int.tdiv n (Int.gcd n d : Int), Int.tdiv d (Int.gcd n d : Int)), true) else ((0, 0), false) := by
  unfold lowest; simp only [if_neg hdn]
 have hrat : isRat (Int.tdiv n (Int.gcd n d : Int), Int.tdiv d (Int.gcd n d : Int)) = true := by
  refine Classical.byContradiction fun hno => ?_
  rw [e, if_neg hno] at hr
  exact absurd hr (by decide)
 rw [if_pos hrat] at e
 have e1 : Int.tdiv n (Int.gcd n d : Int) = n / (Int.gcd n d : Int) := Int.tdiv_eq_ediv_of_nonneg h1
 have e2 : Int.tdiv d (Int.gcd n d : Int) = d / (Int.gcd n d : Int) := Int.tdiv_eq_ediv_of_nonneg (by omega)
 have hgn : 0 < n → (Int.gcd n d : Int) ≤ n := fun h => by
  have := Nat.gcd_le_left d.natAbs (show 0 < n.natAbs by omega)
  have e : Int.gcd n d = Nat.gcd n.natAbs d.natAbs := rfl
  omega
 refine ⟨_, ⟨by unfold lowQ; rw [e]; rfl, hrat, ?_, ⟨(isRat_iff.1 hrat).1, ?_⟩, fun h => ?_, fun h => by omega, fun h => by subst h; simp⟩⟩
 ·exact tdiv_bound _ _
 ·show Int.tdiv d _ ≤ d
  have := tdiv_bound d (Int.gcd n d : Int)
  have h5 := (isRat_iff.1 hrat).1
  simp only at h5
  omega
 ·show 0 < Int.tdiv n _
  rw [e1]
  exact Int.ediv_pos_of_pos_of_dvd h (by omega) (Int.gcd_dvd_left ..)
theorem lowQ_some {n d : Int} (h1 : -1000000000 ≤ n) (h2 : n ≤ 1000000000) (h3 : 1 ≤ d) (h4 : d ≤ 1000000000) : ∃ r, LowOk n d r := by
 by_cases hn : 0 ≤ n
 ·exact lowQ_some_nonneg hn h2 h3 h4
 ·obtain ⟨r, h⟩ := lowQ_some_nonneg (n := -n) (d := d) (by omega) (by omega) h3 h4
  have e := lowQ_neg (n := -n) (d := d) (by omega)
  rw [Int.neg_neg, h.eq] at e
  have hr := isRat_neg h.rat
  have := h.pos (by omega)
  have := h.num
  exact ⟨(-r.1, r.2), ⟨e, by rw [Int.zero_sub] at hr; exact hr, by show (-r.1).natAbs ≤ _; omega, h.den, fun h => by omega, fun h => by show -r.1 < 0; omega, fun h => by omega⟩⟩
theorem coord_bd {r : Rt} (h : coord r = true) : 0 ≤ r.1 ∧ r.1 ≤ r.2 ∧ 1 ≤ r.2 ∧ r.2 ≤ 100 := by
 simp only [coord, isUnit, Bool.and_eq_true, inB_iff, decide_eq_true_eq] at h
 have := isRat_iff.1 h.1.1
 omega
theorem mul_bd {a b A B : Int} (h1 : -A ≤ a) (h2 : a ≤ A) (h3 : -B ≤ b) (h4 : b ≤ B) (hA : 0 ≤ A) (hB : 0 ≤ B) : -(A * B) ≤ a * b ∧ a * b ≤ A * B := by
 have h5 : (a * b).natAbs ≤ A.natAbs * B.natAbs := by rw [Int.natAbs_mul]; exact Nat.mul_le_mul (by omega) (by omega)
 have h6 : ((A.natAbs * B.natAbs : Nat) : Int) = A * B := by rw [Int.natCast_mul]; rw [Int.natAbs_of_nonneg hA, Int.natAbs_of_nonneg hB]
 omega
def small (r : Rt) : Prop := isRat r = true ∧ -500 ≤ r.1 ∧ r.1 ≤ 500 ∧ 1 ≤ r.2 ∧ r.2 ≤ 100
theorem small_coord {r : Rt} (h : coord r = true) : small r := by
 have := coord_bd h
 exact ⟨coord_rat h, by omega, by omega, by omega, by omega⟩
theorem sub_small {a b : Rt} (ha : small a) (hb : small b) : ∃ r, LowOk (a.1 * b.2 - b.1 * a.2) (a.2 * b.2) r ∧ subQ a b = some r ∧ r.1.natAbs ≤ 100000 ∧ r.2 ≤ 10000 := by
 obtain ⟨_, a1, a2, a3, a4⟩ := ha
 obtain ⟨_, b1, b2, b3, b4⟩ := hb
 have m1 := mul_bd (a := a.1) (b := b.2) (A := 500) (B := 100) (by omega) (by omega) (by omega) (by omega) (by omega) (by omega)
 have m2 := mul_bd (a := b.1) (b := a.2) (A := 500) (B := 100) (by omega) (by omega) (by omega) (by omega) (by omega) (by omega)
 have m3 := mul_bd (a := a.2) (b := b.2) (A := 100) (B := 100) (by omega) (by omega) (by omega) (by omega) (by omega) (by omega)
 have p3 : 0 < a.2 * b.2 := Int.mul_pos (by omega) (by omega)
 obtain ⟨r, hr⟩ := lowQ_some (n := a.1 * b.2 - b.1 * a.2) (d := a.2 * b.2) (by omega) (by omega) (by omega) (by omega)
 have h5 := hr.num
 have h6 := hr.den
 exact ⟨r, hr, hr.eq, by omega, by omega⟩
def slopeQ (p q : Pt) : Rt := (((subQ q.2 p.2).bind fun u => (subQ q.1 p.1).bind fun v => divQ u v)).getD (0, 0)
structure SlopeOk (p q : Pt) (u v : Rt) : Prop where
 up : subQ q.2 p.2 = some u
 far : subQ q.1 p.1 = some v
 ru : isRat u = true
 rv : isRat v = true
 div : divQ u v = some (slopeQ p q)
 rs : isRat (slopeQ p q) = true
 ub : u.1.natAbs ≤ 100000 ∧ u.2 ≤ 10000
 vb : v.1.natAbs ≤ 10000 ∧ v.2 ≤ 10000
 vp : 0 < v.1
 sg : (0 < (slopeQ p q).1 ↔ 0 < u.1) ∧ ((slopeQ p q).1 < 0 ↔ u.1 < 0)
theorem slope_ok {p q : Pt} (hp1 : coord p.1 = true) (hp2 : small p.2) (hq1 : coord q.1 = true) (hq2 : small q.2) (hl : less p.1 q.1 = true) : ∃ u v, SlopeOk p q u v := by
 obtain ⟨u, hu, e1, u1, u2⟩ := sub_small hq2 hp2
 obtain ⟨v, hv, e2, v1', v2⟩ := sub_small (small_coord hq1) (small_coord hp1)
 have v1 : v.1.natAbs ≤ 10000 := by
  have h1 := hv.num
  obtain ⟨a1, a2, a3, a4⟩ := coord_bd hq1
  obtain ⟨b1, b2, b3, b4⟩ := coord_bd hp1
  have m1 := mul_bd (a := q.1.1) (b := p.1.2) (A := 100) (B := 100) (by omega) (by omega) (by omega) (by omega) (by omega) (by omega)
  have m2 := mul_bd (a := p.1.1) (b := q.1.2) (A := 100) (B := 100) (by omega) (by omega) (by omega) (by omega) (by omega) (by omega)
  have p1 : 0 ≤ q.1.1 * p.1.2 := Int.mul_nonneg a1 (by omega)
  have p2 : 0 ≤ p.1.1 * q.1.2 := Int.mul_nonneg b1 (by omega)
  omega
 have hlt : p.1.1 * q.1.2 < q.1.1 * p.1.2 := by simpa [less] using hl
 have hvp := hv.pos (by omega)
 have hud := hu.den
 have hvd := hv.den
 have m1 := mul_bd (a := u.1) (b := v.2) (A := 100000) (B := 10000) (by omega) (by omega) (by omega) (by omega) (by omega) (by omega)
 have m2 := mul_bd (a := u.2) (b := v.1) (A := 10000) (B := 10000) (by omega) (by omega) (by omega) (by omega) (by omega) (by omega)
 have m3 : 0 < u.2 * v.1 := Int.mul_pos (by omega) hvp
 obtain ⟨s, hs⟩ := lowQ_some (n := u.1 * v.2) (d := u.2 * v.1) (by omega) (by omega) (by omega) (by omega)
 have e3 : divQ u v = some s := by unfold divQ; rw [if_neg (by omega)]; exact hs.eq
 have e4 : slopeQ p q = s := by unfold slopeQ; rw [e1, e2]; simp [e3]
 refine ⟨u, v, ⟨e1, e2, hu.rat, hv.rat, by rw [e4]; exact e3, by rw [e4]; exact hs.rat, ⟨u1, u2⟩, ⟨v1, v2⟩, hvp, ?_⟩⟩
 rw [e4]
 have hv2 : 0 < v.2 := by omega
 rcases Int.lt_trichotomy u.1 0 with h | h | h
 ·have h1 : u.1 * v.2 < 0 := Int.mul_neg_of_neg_of_pos h hv2
  have := hs.neg h1
  constructor <;> constructor <;> omega
 ·have h1 : u.1 * v.2 = 0 := by rw [h, Int.zero_mul]
  have := hs.zer h1
  constructor <;> constructor <;> omega
 ·have h1 : 0 < u.1 * v.2 := Int.mul_pos h hv2
  have := hs.pos h1
  constructor <;> constructor <;> omega
section
variable {n : Nat} {p : Nat → Pt}
def slopesT (n : Nat) (p : Nat → Pt) : List Rt := tab (n - 1) fun i => slopeQ (p i) (p (i + 1))
def strictB (n : Nat) (p : Nat → Pt) : Bool := (slopesT n p).all fun s => !(s.1 == 0)
end
end Go.PV

/-
 Plain laws: values of maps and lifts.
 Conditions: none.
-/
set_option linter.all false
namespace Go.PV
structure Curve (n : Nat) (p : Nat → Pt) : Prop where
 lo : 2 ≤ n
 hi : n ≤ 12
 x : ∀ i, i < n → coord (p i).1 = true
 y : ∀ i, i < n → small (p i).2
 up : ∀ i, 0 < i → i < n → less (p (i - 1)).1 (p i).1 = true
 fst : (p 0).1 = (0, 1)
 lst : (p (n - 1)).1 = (1, 1)
def CR (bad : Bool) (o : Option Rt) (v : Rt × Bool) : Prop := isRat v.1 = true ∧ match o with
 | some r => v = (r, bad)
 | none => v.2 = true
section
variable {n : Nat} {p : Nat → Pt}
theorem Curve.piece (h : Curve n p) {i : Nat} (hi : i + 1 < n) : ∃ u v, SlopeOk (p i) (p (i + 1)) u v :=
 slope_ok (h.x i (by omega)) (h.y i (by omega)) (h.x (i + 1) hi) (h.y (i + 1) hi) (h.up (i + 1) (by omega) hi)
structure AtJ (n : Nat) (p : Nat → Pt) (x : Rt) (j : Nat) : Prop where
 lt : j < n
 bef : ∀ k, k < j → less (p k).1 x = true
 at' : less (p j).1 x = false
def onQ (p q : Pt) (x : Rt) : Option Rt := (subQ x p.1).bind fun far => (mulQ (slopeQ p q) far).bind fun up => addQ p.2 up
end
end Go.PV

/-
 Plain laws: values of lifts.
 Conditions: none.
-/
set_option linter.all false
namespace Go.PV
structure LiftT (n : Nat) (p : Nat → Pt) : Prop where
 cur : Curve n p
 mono : ∀ i, 0 < i → i < n → less (p i).2 (p (i - 1)).2 = false
 lstY : (p (n - 1)).2 = ((p 0).2.1 + (p 0).2.2, (p 0).2.2)
 by5 : ∀ i, i < n → -5 * (p i).2.2 ≤ (p i).2.1 ∧ (p i).2.1 ≤ 5 * (p i).2.2
def flr (x : Rt) : Int := floorDiv x.1 x.2
def part (x : Rt) : Rt := (x.1 - flr x * x.2, x.2)
structure PartOk (x : Rt) : Prop where
 rat : isRat (part x) = true
 lo : 0 ≤ (part x).1
 hi : (part x).1 < (part x).2
 spec : spec_raFloor x = some (flr x)
 impl : impl_floor x = some (flr x)
 bd : flr x * x.2 ≤ x.1 ∧ x.1 < flr x * x.2 + x.2
section
variable {n : Nat} {p : Nat → Pt}
open Classical in
noncomputable def atQ (n : Nat) (p : Nat → Pt) (x : Rt) : Option Rt := if h : ∃ j, AtJ n p x j then onQ (p (Classical.choose h - 1)) (p (Classical.choose h - 1 + 1)) x else none
noncomputable def liftQ (n : Nat) (p : Nat → Pt) (x : Rt) : Option Rt := (atQ n p (part x)).bind fun y => addQ y (flr x, 1)
end
end Go.PV

/-
 Plain laws: where a lift comes from.
 Conditions: none.
-/
set_option linter.all false
namespace Go.PV
def turnK (y x : Rt) : Int := if less (part x) (part y) = true then flr x - flr y - 1 else flr x - flr y
section
variable {n : Nat} {p : Nat → Pt}
def backQ (q r : Pt) (z : Rt) : Option Rt := (subQ z q.2).bind fun u => (divQ u (slopeQ q r)).bind fun v => addQ q.1 v
structure UpJ (n : Nat) (p : Nat → Pt) (z : Rt) (j : Nat) : Prop where
 pos : 0 < j
 lt : j < n
 bef : ∀ k, k < j → less (p k).2 z = true
 at' : less (p j).2 z = false
structure FlatJ (n : Nat) (p : Nat → Pt) (j : Nat) : Prop where
 pos : 0 < j
 lt : j < n
 same : ∀ k, j < k → k < n → (p (k - 1)).2 = (p k).2
 step : (p (j - 1)).2 ≠ (p j).2
section
variable (h : Curve n p) {z : Rt} (hz : isRat z = true)
include h hz
end
end
end Go.PV

/-
 Plain laws: what fractions stand for.
 Conditions: none.
-/
set_option linter.all false
namespace Go.PV
def val (r : Rt) : Rat := (r.1 : Rat) / (r.2 : Rat)
section
variable {a b r : Rt} (ha : isRat a = true) (hb : isRat b = true)
include ha hb
end
end Go.PV

/-
 Plain law: more steps give bounds that are no worse.
 Conditions: none.
-/
set_option linter.all false
namespace Go.PV
section
variable {n : Nat} {G : Nat → Nat → Int}
def lbd (G : Nat → Nat → Int) (n : Nat) (p q : Int) (v : Nat → Int) : Prop := ∀ i, i < n → p * v i ≤ q * dotN (G i) v n
def ubd (G : Nat → Nat → Int) (n : Nat) (p q : Int) (v : Nat → Int) : Prop := ∀ i, i < n → q * dotN (G i) v n ≤ p * v i
section
variable {v : Nat → Int}
end
end
end Go.PV

/-
 Plain law: growth of drawn graphs.
 Conditions: none.
-/
set_option linter.all false
namespace Go.PV
theorem isGraph_of {n : Nat} {G : Nat → Nat → Int} (h1 : 1 ≤ n) (hn : n ≤ 8) (hG : ∀ i j, i < n → j < n → 0 ≤ G i j ∧ G i j ≤ 9) : isGraph (mat n n G) = true := by
 unfold isGraph
 rw [mat_len, Bool.and_eq_true]
 refine ⟨inB_iff.2 ⟨by omega, by omega⟩, ?_⟩
 unfold mat
 rw [tab_all]
 intro i hi
 rw [tab_len, Bool.and_eq_true, tab_all]
 exact ⟨by simp, fun j hj => inB_iff.2 (hG i j hi hj)⟩
theorem sized_mat {n : Nat} {G : Nat → Nat → Int} (hn : n ≤ 8) : sized (mat n n G) := ⟨by rw [mat_len]; omega, fun row hr => by
 obtain ⟨i, _, rfl⟩ := tab_mem.1 hr
 rw [tab_len]; omega⟩
section
variable {n : Nat} {G : Nat → Nat → Int} {v : Nat → Int}
end
end Go.PV

/-
 Plain law: companion graphs and nilpotent graphs.
 Conditions: none.
-/
set_option linter.all false
namespace Go.PV
theorem laws_sameInts_self (xs : List Int) (hl : xs.length ≤ 4611686018427387904) : laws_sameInts xs xs = some true := laws_eqIntS_self xs hl
theorem laws_sameLists_self (g : List (List Int)) (hs : sized g) : laws_sameLists g g = some true := laws_eqIntSS_self g hs
def cgAsk (a : List Int) : Bool := isPol a && (isMon a && (decide (2 ≤ (a.length : Int)) && (a.take (a.length - 1)).all (inB (-9) 0)))
section
variable {n : Nat} {p : Nat → Int}
theorem impl_cg (h1 : 1 ≤ n) (hn : n ≤ 8) (hp : ∀ i, i < n → -9 ≤ p i ∧ p i ≤ 0) :
  ((impl_emptyGraph (n : Int)).bind fun v7 => (loopO (impl_CompanionGraph_b2 (tab (n + 1) p)) (v7, 0)).bind fun y17 => impl_CompanionGraph_k1 (tab (n + 1) p) y17) = some (mat n n (cmpM n p), true) := by
 have e1 : w64 (((n + 1 : Nat) : Int) - 1) = (n : Int) := by rw [w64_id (by omega) (by omega)]; omega
 have e2 : w64 ((n : Int) - 1) = ((n - 1 : Nat) : Int) := by rw [w64_id (by omega) (by omega)]; omega
 have l1 := loop_idx (body := impl_CompanionGraph_b2 (tab (n + 1) p)) (n - 1) (fun i => (mat n n (fun a b => if a < i ∧ b = a + 1 then (1 : Int) else 0), (i : Int))) (mat n n (fun a b => if a + 1 < n ∧ b = a + 1 then (1 : Int) else 0)) (fun i hi => by
  have e3 : w64 ((i : Int) + 1) = ((i + 1 : Nat) : Int) := w64_nat (by omega)
  simp only [impl_CompanionGraph_b2, tab_len, e1, e2, show ((i : Int) < ((n - 1 : Nat) : Int)) from by omega, decide_true, if_true, idxO_mat (show i < n by omega), Option.bind_some, e3, idxO_tab (show i + 1 < n by omega), Int.toNat_natCast, mat_set2 (show i < n by omega) (show i + 1 < n by omega)]
  congr 3
  refine mat_ext fun a b _ _ => ?_
  by_cases ha : a = i
  ·subst ha
   by_cases hb : b = a + 1 <;> simp [hb]
  ·by_cases hai : a < i
   ·simp [ha, hai, show a < i + 1 by omega]
   ·simp [ha, hai, show ¬ a < i + 1 by omega]) (by
  simp only [impl_CompanionGraph_b2, tab_len, e1, e2, Int.lt_irrefl, decide_false, Bool.false_eq_true, if_false]
  congr 2
  exact mat_ext fun a b ha _ => by
   by_cases h : a < n - 1
   ·simp [h, show a + 1 < n by omega]
   ·simp [h, show ¬ a + 1 < n by omega])
 have l2 := loop_idx (body := impl_CompanionGraph_b1 (tab (n + 1) p)) n (fun i => (mat n n (fun a b => if a + 1 < n then (if b = a + 1 then (1 : Int) else 0) else (if b < i then -p b else 0)), (i : Int))) (mat n n (cmpM n p)) (fun i hi => by
  have e3 : w64 (0 - p i) = -p i := by have := hp i hi; rw [w64_id (by omega) (by omega)]; omega
  simp only [impl_CompanionGraph_b1, tab_len, e1, e2, show ((i : Int) < (n : Int)) from by omega, decide_true, if_true, idxO_mat (show n - 1 < n by omega), Option.bind_some, idxO_tab (show i < n + 1 by omega), e3, idxO_tab hi, Int.toNat_natCast, mat_set2 (show n - 1 < n by omega) hi, w64_nat (show i < 9223372036854775807 by omega)]
  congr 3
  refine mat_ext fun a b ha _ => ?_
  by_cases h : a = n - 1
  ·subst h
   have hh : ¬ (n - 1 + 1 < n) := by omega
   simp only [hh, if_true, if_false]
   by_cases hb : b = i
   ·subst hb; simp
   ·by_cases hb2 : b < i
    ·simp [hb, hb2, show b < i + 1 by omega]
    ·simp [hb, hb2, show ¬ b < i + 1 by omega]
  ·have hh : a + 1 < n := by omega
   simp only [h, hh, if_true, if_false]) (by
  simp only [impl_CompanionGraph_b1, tab_len, e1, Int.lt_irrefl, decide_false, Bool.false_eq_true, if_false]
  congr 2
  exact mat_ext fun a b _ hb => by simp [cmpM, hb])
 rw [impl_emptyGraph_eq n (by omega), Option.bind_some]
 have l1' : loopO (impl_CompanionGraph_b2 (tab (n + 1) p)) (mat n n fun _ _ => 0, 0) = some (mat n n (fun a b => if a + 1 < n ∧ b = a + 1 then (1 : Int) else 0)) := by
  rw [← l1]; congr 2
 have l2' : loopO (impl_CompanionGraph_b1 (tab (n + 1) p)) (mat n n (fun a b => if a + 1 < n ∧ b = a + 1 then (1 : Int) else 0), 0) = some (mat n n (cmpM n p)) := by
  rw [← l2]
  have : (mat n n (fun a b => if a + 1 < n ∧ b = a + 1 then (1 : Int) else 0)) = mat n n (fun a b => if a + 1 < n then (if b = a + 1 then (1 : Int) else 0) else (if b < 0 then -p b else 0)) := mat_ext fun a b _ _ => by
   by_cases h : a + 1 < n <;> simp [h]
  rw [this]
  rfl
 rw [l1', Option.bind_some]
 unfold impl_CompanionGraph_k1
 rw [l2']
 rfl
theorem spec_cg (h1 : 1 ≤ n) (hn : n ≤ 8) (hp : ∀ i, i < n → -9 ≤ p i ∧ p i ≤ 0) :
  ((loopO (spec_CompanionGraph_b2 (tab (n + 1) p)) ([], 0)).bind fun y16 => spec_CompanionGraph_k1 (tab (n + 1) p) y16) = some (mat n n (cmpM n p), true) := by
 have e1 : w64 (((n + 1 : Nat) : Int) - 1) = (n : Int) := by rw [w64_id (by omega) (by omega)]; omega
 have e2 : w64 ((n : Int) - 1) = ((n - 1 : Nat) : Int) := by rw [w64_id (by omega) (by omega)]; omega
 have l1 := loop_idx (body := spec_CompanionGraph_b2 (tab (n + 1) p)) n (fun i => (tab i (fun a => tab n fun b => if b = a + 1 then (1 : Int) else 0), (i : Int))) (mat n n (fun a b => if b = a + 1 then (1 : Int) else 0)) (fun i hi => by
  have e3 : w64 ((i : Int) + 1) = ((i + 1 : Nat) : Int) := w64_nat (by omega)
  simp only [spec_CompanionGraph_b2, tab_len, e1, show ((i : Int) < (n : Int)) from by omega, decide_true, if_true, e3]
  rw [guardO_bind_pos (by omega), Int.toNat_natCast, rep_tab]
  have fin : ∀ row : List Int, row = tab n (fun b => if b = i + 1 then (1 : Int) else 0) → spec_CompanionGraph_k3 (tab i (fun a => tab n fun b => if b = a + 1 then (1 : Int) else 0), (i : Int)) row = some (.inl (tab (i + 1) (fun a => tab n fun b => if b = a + 1 then (1 : Int) else 0), ((i + 1 : Nat) : Int))) := by
   rintro _ rfl
   unfold spec_CompanionGraph_k3
   rw [guardO_bind_pos (by simp [tab_len]; omega)]
   simp only [e3, tab_succ i (fun a => tab n fun b => if b = a + 1 then (1 : Int) else 0)]
  by_cases hlt : i + 1 < n
  ·rw [if_pos (decide_eq_true (by omega)), idxO_tab hlt, Option.bind_some, Int.toNat_natCast, tab_set hlt]
   exact fin _ rfl
  ·rw [if_neg (by simp; omega)]
   exact fin _ (tab_ext fun b hb => by rw [if_neg (by omega)])) (by
  simp only [spec_CompanionGraph_b2, tab_len, e1, Int.lt_irrefl, decide_false, Bool.false_eq_true, if_false]
  rfl)
 have l2 := loop_idx (body := spec_CompanionGraph_b1 (tab (n + 1) p) (mat n n (fun a b => if b = a + 1 then (1 : Int) else 0))) n (fun i => (mat n n (fun a b => if a + 1 < n then (if b = a + 1 then (1 : Int) else 0) else (if b < i then -p b else 0)), (i : Int))) (mat n n (cmpM n p)) (fun i hi => by
  have e3 : w64 (0 - p i) = -p i := by have := hp i hi; rw [w64_id (by omega) (by omega)]; omega
  simp only [spec_CompanionGraph_b1, tab_len, mat_len, e1, e2, show ((i : Int) < (n : Int)) from by omega, decide_true, if_true, idxO_mat (show n - 1 < n by omega), Option.bind_some, idxO_tab (show i < n + 1 by omega), e3, idxO_tab hi, Int.toNat_natCast, mat_set2 (show n - 1 < n by omega) hi, w64_nat (show i < 9223372036854775807 by omega)]
  congr 3
  refine mat_ext fun a b ha _ => ?_
  by_cases h : a = n - 1
  ·subst h
   have hh : ¬ (n - 1 + 1 < n) := by omega
   simp only [hh, if_true, if_false]
   by_cases hb : b = i
   ·subst hb; simp
   ·by_cases hb2 : b < i
    ·simp [hb, hb2, show b < i + 1 by omega]
    ·simp [hb, hb2, show ¬ b < i + 1 by omega]
  ·have hh : a + 1 < n := by omega
   simp only [h, hh, if_true, if_false]) (by
  simp only [spec_CompanionGraph_b1, mat_len, Int.lt_irrefl, decide_false, Bool.false_eq_true, if_false]
  congr 2
  exact mat_ext fun a b _ hb => by simp [cmpM, hb])
 have l1' : loopO (spec_CompanionGraph_b2 (tab (n + 1) p)) ([], 0) = some (mat n n (fun a b => if b = a + 1 then (1 : Int) else 0)) := l1
 have l2' : loopO (spec_CompanionGraph_b1 (tab (n + 1) p) (mat n n (fun a b => if b = a + 1 then (1 : Int) else 0))) (mat n n (fun a b => if b = a + 1 then (1 : Int) else 0), 0) = some (mat n n (cmpM n p)) := by
  rw [← l2]
  have : (mat n n (fun a b => if b = a + 1 then (1 : Int) else 0)) = mat n n (fun a b => if a + 1 < n then (if b = a + 1 then (1 : Int) else 0) else (if b < 0 then -p b else 0)) := mat_ext fun a b _ hb => by
   by_cases h : a + 1 < n
   ·simp [h]
   ·rw [if_neg (by omega), if_neg h, if_neg (by omega)]
  simp only [← this]
  rfl
 rw [l1', Option.bind_some]
 unfold spec_CompanionGraph_k1
 rw [l2']
 rfl
end
theorem both_Companion (a : List Int) (hl : a.length ≤ 1048576) : (spec_CompanionGraph a = some ([], false) ∧ impl_CompanionGraph a = some ([], false)) ∨
  ∃ (n : Nat) (p : Nat → Int), 1 ≤ n ∧ n ≤ 8 ∧ a = tab (n + 1) p ∧ p n = 1 ∧ (∀ i, i < n → -9 ≤ p i ∧ p i ≤ 0) ∧ isPoly a = true ∧ spec_CompanionGraph a = some (mat n n (cmpM n p), true) ∧ impl_CompanionGraph a = some (mat n n (cmpM n p), true) := by
 have pre1 : spec_CompanionGraph a = if cgAsk a = true then (loopO (spec_CompanionGraph_b2 a) ([], 0)).bind fun y16 => spec_CompanionGraph_k1 a y16 else some ([], false) := by
  unfold spec_CompanionGraph cgAsk
  rw [spec_poGood_eq a (by omega)]
  cases h1 : isPol a
  ·rfl
  ·rw [spec_poMonic_eq a h1]
   simp only [Option.bind_some, Bool.not_true, Bool.false_eq_true, if_false, Bool.true_and]
   cases h2 : isMon a
   ·rfl
   ·simp only [Bool.not_true, Bool.false_eq_true, if_false, Bool.true_and]
    by_cases h3 : (a.length : Int) < 2
    ·have : ¬ 2 ≤ (a.length : Int) := by omega
     simp [h3, this]
    ·have : 2 ≤ (a.length : Int) := by omega
     simp only [h3, this, decide_false, decide_true, Bool.false_eq_true, if_false, Bool.true_and, w64_id (n := (a.length : Int) - 1) (by omega) (by omega)]
     rw [guardO_bind_pos (by omega), show ((a.length : Int) - 1).toNat = a.length - 1 by omega, spec_l1All_eq _ _ _ (by rw [List.length_take]; omega)]
     cases (a.take (a.length - 1)).all (inB (-9) 0) <;> rfl
 have pre2 : impl_CompanionGraph a = if cgAsk a = true then ((impl_emptyGraph (w64 ((a.length : Int) - 1))).bind fun v7 => (loopO (impl_CompanionGraph_b2 a) (v7, 0)).bind fun y17 => impl_CompanionGraph_k1 a y17) else some ([], false) := by
  unfold impl_CompanionGraph cgAsk
  rw [impl_isPolynomial_eq a (by omega)]
  cases h1 : isPol a
  ·rfl
  ·rw [impl_isMonic_eq a h1]
   simp only [Option.bind_some, Bool.not_true, Bool.false_eq_true, if_false, Bool.true_and]
   cases h2 : isMon a
   ·rfl
   ·simp only [Bool.not_true, Bool.false_eq_true, if_false, Bool.true_and, w64_id (n := (a.length : Int) - 1) (by omega) (by omega)]
    by_cases h3 : (a.length : Int) - 1 < 1
    ·have : ¬ 2 ≤ (a.length : Int) := by omega
     simp [h3, this]
    ·have : 2 ≤ (a.length : Int) := by omega
     have hc := slices_ContainsFunc_Lint_int_eq (a.take (a.length - 1)) (fun x0 => impl_CompanionGraph_1 x0) (fun x => !inB (-9) 0 x) (fun x => by simp [impl_CompanionGraph_1, impl_within_eq]) (by rw [List.length_take]; omega)
     simp only [h3, this, decide_false, decide_true, Bool.false_eq_true, if_false, Bool.true_and]
     rw [guardO_bind_pos (by omega), show ((a.length : Int) - 1).toNat = a.length - 1 by omega, hc]
     simp only [List.any_eq_not_all_not, Bool.not_not, Option.bind_some]
     cases (a.take (a.length - 1)).all (inB (-9) 0) <;> rfl
 cases ha : cgAsk a
 ·left; rw [pre1, pre2, ha]; exact ⟨rfl, rfl⟩
 ·right
  have ha' := ha
  simp only [cgAsk, isPol, isPoly, isMon, Bool.and_eq_true, decide_eq_true_eq, List.all_eq_true, inB_iff, beq_iff_eq] at ha'
  obtain ⟨⟨⟨h9, hpo⟩, _⟩, ⟨_, hlast⟩, h2, hall⟩ := ha'
  obtain ⟨n, hn⟩ : ∃ n, a.length = n + 1 := ⟨a.length - 1, by omega⟩
  obtain ⟨p, hpd⟩ : ∃ p : Nat → Int, ∀ i, p i = a.getD i default := ⟨_, fun _ => rfl⟩
  have e : a = tab (n + 1) p := by
   have e := tab_eta a
   rw [hn] at e
   exact e.trans (tab_ext fun i _ => (hpd i).symm)
  have hne : a ≠ [] := by intro h; rw [h] at hn; simp at hn
  have hpn : p n = 1 := by
   have h1 := idx_last hne (by omega)
   rw [hlast, hn, w64_id (by omega) (by omega), show ((n + 1 : Nat) : Int) - 1 = (n : Int) by omega, e, idxO_tab (by omega)] at h1
   exact Option.some.inj h1
  have hpi : ∀ i, i < n → -9 ≤ p i ∧ p i ≤ 0 := fun i hi => by
   refine hall _ ?_
   have : (a.take (a.length - 1))[i]? = some (p i) := by
    rw [List.getElem?_take, if_pos (by omega), e, tab_get (by omega)]
   exact List.mem_of_getElem? this
  refine ⟨n, p, by omega, by omega, e, hpn, hpi, ?_, ?_, ?_⟩
  ·unfold isPoly
   rw [Bool.and_eq_true, List.all_eq_true]
   exact ⟨decide_eq_true (by omega), fun x hx => inB_iff.2 (hpo x hx)⟩
  ·rw [pre1, ha, if_pos rfl, e]
   exact spec_cg (by omega) (by omega) hpi
  ·rw [pre2, ha, if_pos rfl]
   rw [show w64 ((a.length : Int) - 1) = (n : Int) by rw [hn, w64_id (by omega) (by omega)]; omega]
   rw [e]
   exact impl_cg (by omega) (by omega) hpi
theorem cmpM_bd {n : Nat} {p : Nat → Int} (hp : ∀ i, i < n → -9 ≤ p i ∧ p i ≤ 0) : ∀ i j, i < n → j < n → 0 ≤ cmpM n p i j ∧ cmpM n p i j ≤ 9 := fun i j _ hj => by
 unfold cmpM
 have := hp j hj
 split
 ·split <;> omega
 ·omega
theorem char_comp {n : Nat} {p : Nat → Int} (h1 : 1 ≤ n) (hn : n ≤ 8) (hp1 : p n = 1) (hp : ∀ i, i < n → -9 ≤ p i ∧ p i ≤ 0) (hpo : isPoly (tab (n + 1) p) = true) (hs : sized (mat n n (cmpM n p))) (hg : isGraph (mat n n (cmpM n p)) = true) :
  impl_CharacteristicOf (mat n n (cmpM n p)) = some (tab (n + 1) p, true) := by
 have e1 : tab (n + 1) (chN n (cmpM n p) n).1 = tab (n + 1) p := by
  rw [ch_fa h1 hn (cmpM_bd hp)]
  refine tab_ext fun i hi => ?_
  rw [(fa_comp h1 hp1 (n - i) (by omega)).1, show n - (n - i) = i by omega]
 obtain ⟨_, e2⟩ := both_poly (n := n) (c := (chN n (cmpM n p) n).1) hn (chN_top n (Nat.le_refl n))
 rw [e1, hpo, if_pos rfl] at e2
 unfold impl_CharacteristicOf
 rw [impl_isGraph_eq _ hs, hg]
 simp only [Option.bind_some, Bool.not_true, Bool.false_eq_true, if_false, impl_char_eq h1 hn, e1, e2]
theorem impl_polynomial_val (c : List Int) (hc : c.length ≤ 9) : impl_polynomial c = some (if isPoly (trimZ c) = true then (trimZ c, true) else ([], false)) ∧ spec_poIf c = some (if isPoly (trimZ c) = true then (trimZ c, true) else ([], false)) := by
 have l1 := trim_loop (body := spec_poTrim_b1) (fun x => rfl) c.length c rfl (by omega)
 have l2 := trim_loop (body := impl_polynomial_b1) (fun x => rfl) c.length c rfl (by omega)
 have hT := trimZ_len c
 have hp : isPol (trimZ c) = isPoly (trimZ c) := by
  unfold isPol
  by_cases h : trimZ c = []
  ·rw [h]; rfl
  ·obtain ⟨x, h1, h2⟩ := trimZ_last c h
   have : (trimZ c).getLastD 0 = x := by rw [List.getLastD_eq_getLast?, h1]; rfl
   rw [this]
   have : (x != 0) = true := by simpa using h2
   rw [this]; simp
 generalize trimZ c = d at l1 l2 hT hp
 have hcl : slices_Clone_Lint_int d = some d := by
  unfold slices_Clone_Lint_int
  rw [guardO_bind_pos (by omega)]
 constructor
 ·unfold impl_polynomial
  rw [l2]
  simp only [Option.bind_some, impl_polynomial_k1, hcl, impl_isPolynomial_eq d (by omega), hp]
  cases isPoly d <;> rfl
 ·unfold spec_poIf spec_poTrim
  rw [l1]
  simp only [Option.bind_some, spec_poTrim_k1, spec_l1Own]
  rw [guardO_bind_pos (by omega)]
  simp only [Option.bind_some, spec_poGood_eq d (by omega), hp]
  cases isPoly d <;> rfl
theorem zeta_nil {n : Nat} {G : Nat → Nat → Int} (h1 : 1 ≤ n) (hn : n ≤ 8) (hG : ∀ i j, i < n → j < n → 0 ≤ G i j ∧ G i j ≤ 9) (hs : sized (mat n n G)) (hg : isGraph (mat n n G) = true) (h0 : noLoop n G = true) :
  impl_ZetaDenominator (mat n n G) = some ([1], true) := by
 have hA : ∀ i j, i < n → j < n → 0 ≤ G i j := fun i j hi hj => (hG i j hi hj).1
 have hcw : ∀ d, 1 ≤ d → cw n G d = 0 := fun d hd => nil_cw hA (noLoop_iff.1 h0) hd
 have e1 : tab (n + 1) (chN n G n).1 = List.replicate n 0 ++ [1] := by
  rw [ch_fa h1 hn hG, ← tab_succ, rep_tab]
  congr 1
  ·exact tab_ext fun i hi => (fa_nil hcw (n - i) (by omega)).1
  ·simp [faM]
 have e2 : trimZ (List.replicate n (0 : Int) ++ [1]).reverse = [1] := by
  unfold trimZ
  rw [List.reverse_reverse]
  have : ∀ m, (List.replicate m (0 : Int) ++ [1]).dropWhile (· == 0) = [1] := by
   intro m
   induction m with
   | zero => rfl
   | succ m ih => rw [List.replicate_succ, List.cons_append, List.dropWhile_cons]; simpa using ih
  rw [this]; rfl
 unfold impl_ZetaDenominator
 rw [impl_isGraph_eq _ hs, hg]
 simp only [Option.bind_some, Bool.not_true, Bool.false_eq_true, if_false, impl_char_eq h1 hn, e1, slices_Reverse_int_eq _ (show (List.replicate n (0 : Int) ++ [1]).length ≤ 4611686018427387904 by simp; omega), (impl_polynomial_val (List.replicate n (0 : Int) ++ [1]).reverse (by simp; omega)).1, e2]
 rfl
theorem trace_impl {n : Nat} {G : Nat → Nat → Int} (h1 : 1 ≤ n) (hn : n ≤ 8) (hG : ∀ i j, i < n → j < n → 0 ≤ G i j ∧ G i j ≤ 9) (hs : sized (mat n n G)) (hg : isGraph (mat n n G) = true) :
  impl_TraceOf (mat n n G) = some (tr n G, true) ∧ 0 ≤ tr n G ∧ tr n G ≤ 72 := by
 have hb := trW_eq hn (M := G) (B := 9) (by decide) (fun i j hi hj => by have := hG i j hi hj; omega) h1
 have h0 : 0 ≤ tr n G := sm_nonneg fun i hi => (hG i i hi hi).1
 refine ⟨?_, h0, by omega⟩
 unfold impl_TraceOf
 rw [impl_isGraph_eq _ hs, hg]
 have e := impl_closed_eq hn hG 1 (by omega)
 rw [cw_one, if_neg (by omega)] at e
 have e' : impl_closedWalks (mat n n G) 1 = some (tr n G, true) := e
 simp only [Option.bind_some, Bool.not_true, Bool.false_eq_true, if_false, e']
theorem compan_k2 (a1 : List Int) (h : Bytes a1) : laws_FnCompanions_k2 a1 () = some true := by
 unfold laws_FnCompanions_k2
 obtain ⟨v15, e1, h1⟩ := DrawPowerSums_ok h
 obtain ⟨r, hr, e2, e3⟩ := both_PowerSums v15.1 v15.2 (by omega)
 obtain ⟨v18, e4, h4⟩ := DrawEulerProduct_ok h
 obtain ⟨s, hs, e5, e6⟩ := both_EulerProduct v18 (by omega)
 obtain ⟨v21, e7, h7⟩ := DrawCycleCount_ok h
 obtain ⟨c, e8, e9⟩ := both_CycleCount v21.1 v21.2 h7.sized
 have hc : c.2 = true → 0 ≤ c.1 := by
  intro hc
  unfold spec_CycleCount at e8
  rw [spec_grGood_eq _ h7.sized] at e8
  cases hg : isGraph v21.1
  ·rw [hg] at e8
   simp at e8
   rw [← e8] at hc; cases hc
  ·rw [hg] at e8
   simp only [Option.bind_some, Bool.not_true, Bool.false_eq_true, if_false, spec_zeLength, spec_l1In_eq] at e8
   cases hk : inB 1 12 v21.2
   ·rw [hk] at e8
    simp at e8
    rw [← e8] at hc; cases hc
   ·rw [hk] at e8
    obtain ⟨n, G, n1, n8, e, hG⟩ := isGraph_mat hg
    have hk' := inB_iff.1 hk
    obtain ⟨q, hq⟩ := Int.eq_ofNat_of_zero_le (show 0 ≤ v21.2 by omega)
    rw [e, hq] at e8
    simp only [Bool.not_true, Bool.false_eq_true, if_false, spec_zeCycles_eq n8 hG (show 1 ≤ q by omega) (show q ≤ 12 by omega), Option.bind_some] at e8
    by_cases hz : zc n G q < 0
    ·simp [hz] at e8; rw [← e8] at hc; cases hc
    ·simp [hz] at e8; rw [← e8]; show 0 ≤ zc n G q; omega
 rw [e1]; simp only [Option.bind_some]
 rw [e2, e3]; simp only [Option.bind_some]
 rw [e4]; simp only [Option.bind_some]
 rw [e5, e6]; simp only [Option.bind_some]
 rw [e7]; simp only [Option.bind_some]
 rw [e8, e9]
 simp only [Option.bind_some, beq_self_eq_true, if_true, laws_sameInts_self r.1 (by omega), laws_sameInts_self s.1 (by omega)]
 cases h2 : c.2
 ·rfl
 ·have := hc h2
  simp [this]
theorem compan_k1 (a1 : List Int) (h : Bytes a1) : laws_FnCompanions_k1 a1 () = some true := by
 unfold laws_FnCompanions_k1
 obtain ⟨g, e1, hs⟩ := DrawIsNilpotent_ok h
 rw [e1, Option.bind_some, compan_k2 a1 h]
 cases hg : isGraph g
 ·have i1 : impl_IsNilpotent g = some (false, false) := by unfold impl_IsNilpotent; rw [impl_isGraph_eq _ hs.sized, hg]; rfl
  have i2 : spec_IsNilpotent g = some (false, false) := by unfold spec_IsNilpotent; rw [spec_grGood_eq _ hs.sized, hg]; rfl
  rw [i1, i2]; rfl
 ·obtain ⟨n, G, n1, n8, rfl, hG⟩ := isGraph_mat hg
  have hA : ∀ i j, i < n → j < n → 0 ≤ G i j := fun i j hi hj => (hG i j hi hj).1
  obtain ⟨i2, i1⟩ := both_IsNilpotent n1 n8 hG hg hs.sized
  obtain ⟨t0, t1⟩ := total_zero n8 hG
  obtain ⟨tr1, tr2, tr3⟩ := trace_impl n1 n8 hG hs.sized hg
  have hin : inB 0 12 (n : Int) = true := inB_iff.2 ⟨by omega, by omega⟩
  have htw : totalWalks (mat n n G) (n : Int) = if total (mat n n (powN n G 1000000001 n)) > 1000000000 then (0, false) else (total (mat n n (powN n G 1000000001 n)), true) := by
   unfold totalWalks
   have e : mat n n (powN n (fun i j => ((mat n n G).getD i []).getD j 0) 1000000001 n) = mat n n (powN n G 1000000001 n) := mat_ext fun i j _ hj => powN_congr (fun i j hi hj => mat_self i j hi hj) n i j hj
   simp only [hg, hin, Bool.and_self, if_true, mat_len, Int.toNat_natCast, e]
  rw [i1, i2]
  simp only [Option.bind_some, beq_self_eq_true, Bool.not_true, Bool.or_self, Bool.false_eq_true, if_false, if_true, mat_len]
  rw [impl_TotalWalks_eq _ _ hs.sized, spec_TotalWalks_eq _ _ hs.sized, tr1, htw]
  simp only [Option.bind_some, beq_self_eq_true, Bool.not_true, bne_self_eq_false, Bool.false_or]
  have htrn : noLoop n G = true → tr n G = 0 := fun hnl => by rw [← cw_one]; exact nil_cw hA (noLoop_iff.1 hnl) (Nat.le_refl 1)
  have cond : (if (if total (mat n n (powN n G 1000000001 n)) > 1000000000 then ((0 : Int), false) else (total (mat n n (powN n G 1000000001 n)), true)).2 = true then !noLoop n G == ((if total (mat n n (powN n G 1000000001 n)) > 1000000000 then ((0 : Int), false) else (total (mat n n (powN n G 1000000001 n)), true)).1 == 0) || noLoop n G && tr n G != 0 else !noLoop n G == false || noLoop n G && tr n G != 0) = false := by
   by_cases hb : total (mat n n (powN n G 1000000001 n)) > 1000000000
   ·rw [if_pos hb]
    have : noLoop n G = false := by
     cases hnl : noLoop n G
     ·rfl
     ·have := t0.2 hnl; omega
    simp [this]
   ·rw [if_neg hb]
    simp only [if_true]
    cases hnl : noLoop n G
    ·have : ¬ total (mat n n (powN n G 1000000001 n)) = 0 := fun h => by rw [t0.1 h] at hnl; cases hnl
     simp [this]
    ·have h1 := t0.2 hnl
     have h2 := htrn hnl
     simp [h1, h2]
  first
   | rw [cond]
   | (simp only [cond])
  simp only [Bool.false_eq_true, if_false]
  cases hnl : noLoop n G
  ·rfl
  ·rw [zeta_nil n1 n8 hG hs.sized hg hnl]
   simp [laws_sameInts_self [1] (by simp)]
theorem laws_FnCompanions_eq (a0 a1 : List Int) (h0 : Bytes a0) (h1 : Bytes a1) : laws_FnCompanions a0 a1 = some true := by
 unfold laws_FnCompanions laws_big
 rw [Option.bind_some]
 by_cases hbig : (decide ((a0.length : Int) > 1048576) || decide ((a1.length : Int) > w64 (1048576 - (a0.length : Int)))) = true
 ·rw [if_pos hbig]
 rw [if_neg hbig]
 obtain ⟨v, e1, hv⟩ := DrawCompanionGraph_ok h0
 rw [e1, Option.bind_some, compan_k1 a1 h1]
 rcases both_Companion v (by omega) with ⟨e2, e3⟩ | ⟨n, p, n1, n8, rfl, hp1, hp, hpo, e2, e3⟩
 ·rw [e2, e3]
  simp [laws_sameLists_self [] ⟨by simp, by simp⟩]
 ·have hG := cmpM_bd hp
  have hg := isGraph_of n1 n8 hG
  have hs := sized_mat (G := cmpM n p) n8
  rw [e2, e3]
  simp only [Option.bind_some, beq_self_eq_true, Bool.not_true, Bool.false_eq_true, if_false, laws_sameLists_self _ hs, if_true, char_comp n1 n8 hp1 hp hpo hs hg, laws_sameInts_self (tab (n + 1) p) (by omega)]
  unfold impl_IsGraph
  rw [impl_isGraph_eq _ hs, hg]
  rfl
end Go.PV

/-
 What comes in as bytes is bytes.
 Conditions: none.
-/
set_option linter.all false
namespace Go.PV
theorem bytes_of {l : List Int} (h : (Ty.sl (.int .u8)).ok l) : Bytes l := by
 refine ⟨Nat.le_trans h.1 (by decide), fun b hb => ?_⟩
 have h2 : (Lit.int .u8 b).wf = true := h.2 b hb
 simp only [Lit.wf, Bool.and_eq_true, decide_eq_true_eq] at h2
 have e1 : IntKind.u8.min = 0 := by decide
 have e2 : IntKind.u8.max = 255 := by decide
 omega
end Go.PV
