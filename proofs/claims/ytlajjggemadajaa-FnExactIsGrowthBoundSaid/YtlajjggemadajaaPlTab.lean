/-
  Plain laws: lists and tables by their places.
  Conditions: none.
-/
import Derived.Test.YtlajjggemadajaaPvPlain
set_option linter.all false
namespace Go.PV
section
variable {α β : Type}
/-- The list of n elements with f i at place i. -/
def tab (n : Nat) (f : Nat → α) : List α := (List.range n).map f
theorem tab_len (n : Nat) (f : Nat → α) : (tab n f).length = n := by simp [tab]
theorem tab_get {n i : Nat} {f : Nat → α} (h : i < n) : (tab n f)[i]? = some (f i) := by simp [tab, h]
theorem tab_get_none {n i : Nat} {f : Nat → α} (h : n ≤ i) : (tab n f)[i]? = none := by simp [tab, h]
theorem idxO_tab {n i : Nat} {f : Nat → α} (h : i < n) : idxO (tab n f) (i : Int) = some (f i) := by rw [idxO_nat, tab_get h]
theorem tab_ext {n : Nat} {f g : Nat → α} (h : ∀ i, i < n → f i = g i) : tab n f = tab n g := List.map_congr_left fun i hi => h i (List.mem_range.1 hi)
theorem tab_set {n i : Nat} {f : Nat → α} {v : α} (h : i < n) : (tab n f).set i v = tab n (fun k => if k = i then v else f k) := by
  apply List.ext_getElem?
  intro j
  rw [List.getElem?_set]
  by_cases hij : i = j
  · subst hij
    rw [if_pos rfl, if_pos (by rw [tab_len]; exact h), tab_get h, if_pos rfl]
  · rw [if_neg hij]
    by_cases hj : j < n
    · rw [tab_get hj, tab_get hj, if_neg (Ne.symm hij)]
    · rw [tab_get_none (by omega), tab_get_none (by omega)]
theorem rep_tab (n : Nat) (v : α) : List.replicate n v = tab n (fun _ => v) := by
  apply List.ext_getElem?
  intro j
  by_cases hj : j < n
  · rw [tab_get hj]; simp [hj]
  · rw [tab_get_none (by omega)]; simp [hj]
theorem tab_succ (n : Nat) (f : Nat → α) : tab n f ++ [f n] = tab (n + 1) f := by simp [tab, List.range_succ]
theorem tab_zero (f : Nat → α) : tab 0 f = [] := rfl
theorem tab_eta [Inhabited α] (xs : List α) : xs = tab xs.length (fun i => xs.getD i default) := by
  apply List.ext_getElem?
  intro j
  by_cases hj : j < xs.length
  · rw [tab_get hj]; simp [hj]
  · rw [tab_get_none (by omega)]; simp; omega
theorem tab_map {n : Nat} {f : Nat → α} (g : α → β) : (tab n f).map g = tab n (fun i => g (f i)) := by simp [tab]
theorem tab_mem {n : Nat} {f : Nat → α} {x : α} : x ∈ tab n f ↔ ∃ i, i < n ∧ f i = x := by simp [tab]
theorem tab_all {n : Nat} {f : Nat → α} {p : α → Bool} : (tab n f).all p = true ↔ ∀ i, i < n → p (f i) = true := by simp [tab]
/-- The table with f i j at row i, place j. -/
def mat (n m : Nat) (f : Nat → Nat → α) : List (List α) := tab n fun i => tab m (f i)
theorem mat_ext {n m : Nat} {f g : Nat → Nat → α} (h : ∀ i j, i < n → j < m → f i j = g i j) : mat n m f = mat n m g := tab_ext fun i hi => tab_ext fun j hj => h i j hi hj
theorem mat_set {n m i j : Nat} {f : Nat → Nat → α} {v : α} (hi : i < n) (hj : j < m) : (mat n m f).set i ((tab m (f i)).set j v) = mat n m (fun a b => if a = i ∧ b = j then v else f a b) := by
  unfold mat
  rw [tab_set hi, tab_set hj]
  refine tab_ext fun a _ => ?_
  by_cases ha : a = i
  · subst ha; simp
  · rw [if_neg ha]; exact tab_ext fun b _ => by simp [ha]
theorem mat_set2 {n m i j : Nat} {f : Nat → Nat → α} {r : Nat → α} {v : α} (hi : i < n) (hj : j < m) : (mat n m f).set i ((tab m r).set j v) = mat n m (fun a b => if a = i then (if b = j then v else r b) else f a b) := by
  unfold mat
  rw [tab_set hi, tab_set hj]
  refine tab_ext fun a _ => ?_
  by_cases ha : a = i
  · subst ha; simp
  · rw [if_neg ha]; exact tab_ext fun b _ => by simp [ha]
theorem mat_len (n m : Nat) (f : Nat → Nat → α) : (mat n m f).length = n := tab_len _ _
theorem idxO_mat {n m i : Nat} {f : Nat → Nat → α} (h : i < n) : idxO (mat n m f) (i : Int) = some (tab m (f i)) := idxO_tab h
/-- A fold over the first n numbers. -/
def foldN (n : Nat) (g : β → Nat → β) (s : β) : β := (List.range n).foldl g s
theorem foldN_succ (n : Nat) (g : β → Nat → β) (s : β) : foldN (n + 1) g s = g (foldN n g s) n := by simp [foldN, List.range_succ]
theorem foldN_zero (g : β → Nat → β) (s : β) : foldN 0 g s = s := rfl
theorem foldN_ext {n : Nat} {g h : β → Nat → β} {s : β} (H : ∀ b i, i < n → g b i = h b i) : foldN n g s = foldN n h s := by
  induction n with
  | zero => rfl
  | succ n ih => rw [foldN_succ, foldN_succ, ih fun b i hi => H b i (by omega), H _ _ (by omega)]
end
end Go.PV
