/-
  Plain laws: powers of graphs' tables, numbers of all walks.
  Conditions: none.
-/
import Derived.Test.YtlajjggemadajaaPlGraph
set_option linter.all false
namespace Go.PV
def capMul (most acc w a : Int) : Int := if most < w64 (acc + w64 (w * a)) then most else w64 (acc + w64 (w * a))
def powStep (n : Nat) (G : Nat → Nat → Int) (most : Int) (F : Nat → Nat → Int) : Nat → Nat → Int := fun i j => foldN n (fun acc k => capMul most acc (F i k) (G k j)) 0
def idM : Nat → Nat → Int := fun i j => if i = j then 1 else 0
def powN (n : Nat) (G : Nat → Nat → Int) (most : Int) : Nat → Nat → Nat → Int
  | 0 => idM
  | m + 1 => powStep n G most (powN n G most m)
theorem impl_emptyGraph_eq (n : Nat) (hn : n ≤ 1048576) : impl_emptyGraph (n : Int) = some (mat n n fun _ _ => 0) := by
  have hx := loop_idx (body := impl_emptyGraph_b1 (n : Int)) n (fun i => (tab n (fun a => if a < i then tab n (fun _ => (0 : Int)) else []), (i : Int))) (mat n n fun _ _ => 0) (fun i hi => by
    simp only [impl_emptyGraph_b1, Int.toNat_natCast, List.length_replicate, idxO_tab hi, Option.bind_some, w64_nat (show i < 9223372036854775807 by omega), show ((i : Int) < (n : Int)) from by omega, decide_true, if_true]
    rw [tab_set hi, rep_tab]
    congr 3
    refine tab_ext fun a _ => ?_
    by_cases h1 : a = i
    · subst h1; simp
    · by_cases h2 : a < i
      · simp [h1, h2, show a < i + 1 by omega]
      · simp [h1, h2, show ¬ a < i + 1 by omega]) (by
    simp only [impl_emptyGraph_b1, Int.toNat_natCast, List.length_replicate, Int.lt_irrefl, decide_false, Bool.false_eq_true, if_false]
    congr 2
    exact tab_ext fun a ha => by simp [ha])
  unfold impl_emptyGraph
  rw [guardO_bind_pos (by omega), Int.toNat_natCast, rep_tab]
  simp only [Nat.not_lt_zero, if_false] at hx
  rw [show (0 : Int) = ((0 : Nat) : Int) from rfl, hx]
  rfl
section impl
variable {n : Nat} {G : Nat → Nat → Int} {most : Int}
theorem impl_b4 (hn : n ≤ 8) {i k : Nat} (hi : i < n) (N : Nat → Nat → Int) (X : List (List Int)) (w : Int) :
    loopO (impl_powerUpTo_b4 most (X, (i : Int)) w (tab n (G k))) (mat n n N, 0) = some (mat n n (fun a b => if a = i then capMul most (N a b) w (G k b) else N a b)) := by
  have hx := loop_idx (body := impl_powerUpTo_b4 most (X, (i : Int)) w (tab n (G k))) n (fun j => (mat n n (fun a b => if a = i ∧ b < j then capMul most (N a b) w (G k b) else N a b), (j : Int))) (mat n n (fun a b => if a = i then capMul most (N a b) w (G k b) else N a b)) (fun j hj => by
    simp only [impl_powerUpTo_b4, tab_len, idxO_tab hj, idxO_mat hi, Option.bind_some, w64_nat (show j < 9223372036854775807 by omega), show ((j : Int) < (n : Int)) from by omega, decide_true, if_true, Int.toNat_natCast]
    rw [mat_set2 hi hj]
    congr 3
    refine mat_ext fun a b _ _ => ?_
    by_cases ha : a = i
    · subst ha
      by_cases hb : b = j
      · subst hb; simp [capMul]
      · by_cases h2 : b < j
        · simp [hb, h2, show b < j + 1 by omega]
        · simp [hb, h2, show ¬ b < j + 1 by omega]
    · simp [ha]) (by
    simp only [impl_powerUpTo_b4, tab_len, Int.lt_irrefl, decide_false, Bool.false_eq_true, if_false]
    congr 2
    exact mat_ext fun a b _ hb => by simp [hb])
  simpa using hx
theorem impl_b3 (hn : n ≤ 8) {i : Nat} (hi : i < n) (N : Nat → Nat → Int) (X : List (List Int)) (w : Nat → Int) :
    loopO (impl_powerUpTo_b3 (mat n n G) most (X, (i : Int)) (tab n w)) (mat n n N, 0) = some (mat n n (fun a b => if a = i then foldN n (fun acc k => capMul most acc (w k) (G k b)) (N a b) else N a b)) := by
  have hx := loop_idx (body := impl_powerUpTo_b3 (mat n n G) most (X, (i : Int)) (tab n w)) n (fun k => (mat n n (fun a b => if a = i then foldN k (fun acc k => capMul most acc (w k) (G k b)) (N a b) else N a b), (k : Int))) (mat n n (fun a b => if a = i then foldN n (fun acc k => capMul most acc (w k) (G k b)) (N a b) else N a b)) (fun k hk => by
    simp only [impl_powerUpTo_b3, tab_len, idxO_tab hk, idxO_mat hk, Option.bind_some, impl_b4 hn hi, impl_powerUpTo_k6, w64_nat (show k < 9223372036854775807 by omega), show ((k : Int) < (n : Int)) from by omega, decide_true, if_true]
    congr 3
    refine mat_ext fun a b _ _ => ?_
    by_cases ha : a = i
    · subst ha; simp [foldN_succ]
    · simp [ha]) (by simp only [impl_powerUpTo_b3, tab_len, Int.lt_irrefl, decide_false, Bool.false_eq_true, if_false])
  simp only [foldN_zero] at hx
  rw [show (fun a b => if a = i then N a b else N a b) = N from by funext a b; split <;> rfl] at hx
  simpa using hx
theorem impl_b2 (hn : n ≤ 8) (F : Nat → Nat → Int) (t : Int) :
    loopO (impl_powerUpTo_b2 (mat n n G) most (mat n n F, t)) (mat n n (fun _ _ => 0), 0) = some (mat n n (powStep n G most F)) := by
  have hx := loop_idx (body := impl_powerUpTo_b2 (mat n n G) most (mat n n F, t)) n (fun i => (mat n n (fun a b => if a < i then powStep n G most F a b else 0), (i : Int))) (mat n n (powStep n G most F)) (fun i hi => by
    simp only [impl_powerUpTo_b2, mat_len, idxO_mat hi, Option.bind_some, impl_b3 hn hi, impl_powerUpTo_k5, w64_nat (show i < 9223372036854775807 by omega), show ((i : Int) < (n : Int)) from by omega, decide_true, if_true]
    congr 3
    refine mat_ext fun a b _ _ => ?_
    by_cases ha : a = i
    · subst ha; simp [powStep]
    · by_cases h2 : a < i
      · simp [ha, h2, show a < i + 1 by omega]
      · simp [ha, h2, show ¬ a < i + 1 by omega]) (by
    simp only [impl_powerUpTo_b2, mat_len, Int.lt_irrefl, decide_false, Bool.false_eq_true, if_false]
    congr 2
    exact mat_ext fun a b ha _ => by simp [ha])
  simpa using hx
theorem impl_b1 (hn : n ≤ 8) (m : Nat) (hm : m ≤ 1048576) : loopO (impl_powerUpTo_b1 (mat n n G) (m : Int) most) (mat n n idM, 0) = some (mat n n (powN n G most m)) := by
  have hx := loop_idx (body := impl_powerUpTo_b1 (mat n n G) (m : Int) most) m (fun t => (mat n n (powN n G most t), (t : Int))) (mat n n (powN n G most m)) (fun t ht => by
    simp only [impl_powerUpTo_b1, mat_len, impl_emptyGraph_eq n (by omega), impl_b2 hn, Option.bind_some, impl_powerUpTo_k4, impl_powerUpTo_k3, w64_nat (show t < 9223372036854775807 by omega), show ((t : Int) < (m : Int)) from by omega, decide_true, if_true]
    rfl) (by simp only [impl_powerUpTo_b1, Int.lt_irrefl, decide_false, Bool.false_eq_true, if_false])
  exact hx
theorem impl_powerUpTo_eq (hn : n ≤ 8) (m : Nat) (hm : m ≤ 1048576) : impl_powerUpTo (mat n n G) (m : Int) most = some (mat n n (powN n G most m)) := by
  have hx := loop_idx (body := impl_powerUpTo_b5 (mat n n fun _ _ => 0)) n (fun i => (mat n n (fun a b => if a < i then idM a b else 0), (i : Int))) (mat n n idM) (fun i hi => by
    simp only [impl_powerUpTo_b5, mat_len, idxO_mat hi, idxO_tab hi, Option.bind_some, w64_nat (show i < 9223372036854775807 by omega), show ((i : Int) < (n : Int)) from by omega, decide_true, if_true, Int.toNat_natCast]
    rw [mat_set2 hi hi]
    congr 3
    refine mat_ext fun a b _ _ => ?_
    by_cases ha : a = i
    · subst ha
      by_cases hb : b = a
      · subst hb; simp [idM]
      · simp [hb, idM, Ne.symm hb]
    · by_cases h2 : a < i
      · simp [ha, h2, show a < i + 1 by omega]
      · simp [ha, h2, show ¬ a < i + 1 by omega]) (by
    simp only [impl_powerUpTo_b5, mat_len, Int.lt_irrefl, decide_false, Bool.false_eq_true, if_false]
    congr 2
    exact mat_ext fun a b ha _ => by simp [ha])
  unfold impl_powerUpTo
  rw [mat_len, impl_emptyGraph_eq n (by omega), Option.bind_some]
  simp only [Nat.not_lt_zero, if_false] at hx
  rw [show (0 : Int) = ((0 : Nat) : Int) from rfl, show (fun (_ _ : Nat) => ((0 : Nat) : Int)) = fun _ _ => (0 : Int) from rfl, hx, Option.bind_some, impl_powerUpTo_k1, impl_b1 hn m hm]
  rfl
end impl
section spec
variable {n : Nat} {G : Nat → Nat → Int}
theorem spec_grCap_eq (v : Int) : spec_grCap v = some (if (1000000001 : Int) < v then 1000000001 else v) := by
  unfold spec_grCap spec_l1Least
  by_cases h : v < 1000000001
  · simp [h, show ¬ (1000000001 : Int) < v by omega]
  · by_cases h2 : (1000000001 : Int) < v
    · simp [h, h2]
    · have : v = 1000000001 := by omega
      subst this; simp
theorem spec_b4 (hn : n ≤ 8) {i j : Nat} (hi : i < n) (hj : j < n) (F : Nat → Nat → Int) (t : Int) (Y : List (List Int)) (Z : List Int) (R : Nat → Int) :
    loopO (spec_grPower_b4 (mat n n G) (t, mat n n F) (Y, (i : Int)) (Z, (j : Int))) (tab n R, 0) = some (tab n (fun b => if b = j then foldN n (fun acc k => capMul 1000000001 acc (F i k) (G k j)) (R b) else R b)) := by
  have hx := loop_idx (body := spec_grPower_b4 (mat n n G) (t, mat n n F) (Y, (i : Int)) (Z, (j : Int))) n (fun l => (tab n (fun b => if b = j then foldN l (fun acc k => capMul 1000000001 acc (F i k) (G k j)) (R b) else R b), (l : Int))) (tab n (fun b => if b = j then foldN n (fun acc k => capMul 1000000001 acc (F i k) (G k j)) (R b) else R b)) (fun l hl => by
    simp only [spec_grPower_b4, mat_len, idxO_tab hj, idxO_mat hi, idxO_mat hl, idxO_tab hl, Option.bind_some, spec_grCap_eq, w64_nat (show l < 9223372036854775807 by omega), show ((l : Int) < (n : Int)) from by omega, decide_true, if_true, Int.toNat_natCast]
    rw [tab_set hj]
    congr 3
    refine tab_ext fun b _ => ?_
    by_cases hb : b = j
    · subst hb; simp only [if_true, foldN_succ]; rfl
    · simp [hb]) (by simp only [spec_grPower_b4, mat_len, Int.lt_irrefl, decide_false, Bool.false_eq_true, if_false])
  simp only [foldN_zero] at hx
  rw [show (fun b => if b = j then R b else R b) = R from by funext b; split <;> rfl] at hx
  simpa using hx
theorem spec_b3 (hn : n ≤ 8) {i : Nat} (hi : i < n) (F : Nat → Nat → Int) (t : Int) (Y : List (List Int)) :
    loopO (spec_grPower_b3 (mat n n G) (t, mat n n F) (Y, (i : Int))) (tab n (fun _ => 0), 0) = some (tab n (powStep n G 1000000001 F i)) := by
  have hx := loop_idx (body := spec_grPower_b3 (mat n n G) (t, mat n n F) (Y, (i : Int))) n (fun j => (tab n (fun b => if b < j then powStep n G 1000000001 F i b else 0), (j : Int))) (tab n (powStep n G 1000000001 F i)) (fun j hj => by
    simp only [spec_grPower_b3, mat_len, spec_b4 hn hi hj, Option.bind_some, spec_grPower_k7, w64_nat (show j < 9223372036854775807 by omega), show ((j : Int) < (n : Int)) from by omega, decide_true, if_true]
    congr 3
    refine tab_ext fun b _ => ?_
    by_cases hb : b = j
    · subst hb; simp [powStep]
    · by_cases h2 : b < j
      · simp [hb, h2, show b < j + 1 by omega]
      · simp [hb, h2, show ¬ b < j + 1 by omega]) (by
    simp only [spec_grPower_b3, mat_len, Int.lt_irrefl, decide_false, Bool.false_eq_true, if_false]
    congr 2
    exact tab_ext fun b hb => by simp [hb])
  simpa using hx
theorem spec_b2 (hn : n ≤ 8) (F : Nat → Nat → Int) (t : Int) : loopO (spec_grPower_b2 (mat n n G) (t, mat n n F)) ([], 0) = some (mat n n (powStep n G 1000000001 F)) := by
  have hx := loop_idx (body := spec_grPower_b2 (mat n n G) (t, mat n n F)) n (fun i => (tab i (fun a => tab n (powStep n G 1000000001 F a)), (i : Int))) (mat n n (powStep n G 1000000001 F)) (fun i hi => by
    simp only [spec_grPower_b2, mat_len, show ((i : Int) < (n : Int)) from by omega, decide_true, if_true]
    rw [guardO_bind_pos (by omega), Int.toNat_natCast, rep_tab, spec_b3 hn hi, Option.bind_some, spec_grPower_k6, guardO_bind_pos (by simp [tab_len]; omega), spec_grPower_k5]
    simp only [w64_nat (show i < 9223372036854775807 by omega)]
    rw [tab_succ i (fun a => tab n (powStep n G 1000000001 F a))]) (by simp only [spec_grPower_b2, mat_len, Int.lt_irrefl, decide_false, Bool.false_eq_true, if_false]; rfl)
  simpa [tab_zero] using hx
theorem spec_b1 (hn : n ≤ 8) (m : Nat) (hm : m ≤ 1048576) : loopO (spec_grPower_b1 (mat n n G)) ((m : Int), mat n n idM) = some (mat n n (powN n G 1000000001 m)) := by
  have hx := loop_idx (body := spec_grPower_b1 (mat n n G)) m (fun t => (((m - t : Nat) : Int), mat n n (powN n G 1000000001 t))) (mat n n (powN n G 1000000001 m)) (fun t ht => by
    simp only [spec_grPower_b1, show (((m - t : Nat) : Int) > 0) from by omega, decide_true, if_true, spec_b2 hn, Option.bind_some, spec_grPower_k4, spec_grPower_k3]
    rw [w64_id (by omega) (by omega), show ((m - t : Nat) : Int) - 1 = ((m - (t + 1) : Nat) : Int) by omega]
    rfl) (by simp [spec_grPower_b1])
  simpa [powN] using hx
theorem spec_grPower_eq (hn : n ≤ 8) (m : Nat) (hm : m ≤ 1048576) : spec_grPower (mat n n G) (m : Int) = some (mat n n (powN n G 1000000001 m)) := by
  have hx := loop_idx (body := spec_grPower_b5 (mat n n G)) n (fun i => (tab i (fun a => tab n (idM a)), (i : Int))) (mat n n idM) (fun i hi => by
    simp only [spec_grPower_b5, mat_len, show ((i : Int) < (n : Int)) from by omega, decide_true, if_true]
    rw [guardO_bind_pos (by omega), guardO_bind_pos (by simp [tab_len]; omega), Int.toNat_natCast, Int.toNat_natCast, rep_tab]
    have e : tab i (fun a => tab n (idM a)) ++ [tab n fun _ => (0 : Int)] = tab (i + 1) (fun a => if a < i then tab n (idM a) else tab n fun _ => 0) := by
      rw [← tab_succ]
      simp only [Nat.lt_irrefl, if_false]
      congr 1
      exact tab_ext fun a ha => by simp [ha]
    rw [e, idxO_tab (Nat.lt_succ_self i), Option.bind_some]
    simp only [Nat.lt_irrefl, if_false, idxO_tab hi, Option.bind_some, w64_nat (show i < 9223372036854775807 by omega)]
    rw [tab_set (Nat.lt_succ_self i), tab_set hi]
    congr 3
    refine tab_ext fun a ha => ?_
    by_cases h1 : a = i
    · subst h1
      simp only [if_true]
      exact tab_ext fun b _ => by simp [idM, eq_comm]
    · simp [h1, show a < i by omega]) (by simp only [spec_grPower_b5, mat_len, Int.lt_irrefl, decide_false, Bool.false_eq_true, if_false]; rfl)
  unfold spec_grPower
  simp only [tab_zero] at hx
  rw [show (0 : Int) = ((0 : Nat) : Int) from rfl, hx, Option.bind_some, spec_grPower_k1, spec_b1 hn m hm]
  rfl
end spec
/-! ### sizes -/
theorem capMul_range {most acc w a : Int} (hm : 0 ≤ most) (hm2 : most ≤ 1000000000000000000) (h1 : 0 ≤ acc) (h2 : acc ≤ most) (h3 : 0 ≤ w) (h4 : w ≤ most) (h5 : 0 ≤ a) (h6 : a ≤ 9) (hs : most ≤ 100000000000000000 ∨ w * a ≤ 8000000000000000000) : 0 ≤ capMul most acc w a ∧ capMul most acc w a ≤ most := by
  have hwa : 0 ≤ w * a := Int.mul_nonneg h3 h5
  have hwa2 : w * a ≤ w * 9 := Int.mul_le_mul_of_nonneg_left h6 h3
  have : w * a ≤ 8000000000000000000 := by rcases hs with h | h <;> omega
  unfold capMul
  rw [w64_id (n := w * a) (by omega) (by omega), w64_id (n := acc + w * a) (by omega) (by omega)]
  split <;> omega
theorem foldN_inv {β : Type} {g : β → Nat → β} {s : β} {n : Nat} (I : β → Prop) (h0 : I s) (hs : ∀ b i, i < n → I b → I (g b i)) : I (foldN n g s) := by
  induction n with
  | zero => exact h0
  | succ n ih => rw [foldN_succ]; exact hs _ n (by omega) (ih fun b i hi => hs b i (by omega))
theorem powN_range {n : Nat} {G : Nat → Nat → Int} {most : Int} (hG : ∀ i j, i < n → j < n → 0 ≤ G i j ∧ G i j ≤ 9) (hm : 1 ≤ most) (hm2 : most ≤ 100000000000000000) : ∀ (m i j : Nat), i < n → j < n → 0 ≤ powN n G most m i j ∧ powN n G most m i j ≤ most
  | 0, i, j, _, _ => by unfold powN idM; split <;> omega
  | m + 1, i, j, hi, hj => by
    show 0 ≤ foldN n _ 0 ∧ foldN n _ 0 ≤ most
    exact foldN_inv (fun x => 0 ≤ x ∧ x ≤ most) ⟨by omega, by omega⟩ fun b k hk hb => by
      have h1 := powN_range hG hm hm2 m i k hi hk
      have h2 := hG k j hk hj
      exact capMul_range (by omega) (by omega) hb.1 hb.2 h1.1 h1.2 h2.1 h2.2 (.inl hm2)
/-- The sum of a list of rows, and what it is when it is cut at a bound. -/
theorem sum_row (xs : List Int) (v : Int) (hv : 0 ≤ v ∧ v ≤ 1000000000000) (hx : ∀ x ∈ xs, 0 ≤ x ∧ x ≤ 1000000001) (hl : xs.length ≤ 8) :
    loopO (impl_TotalWalks_b2 xs) (v, 0) = some (v + xs.sum) := by
  have hb : ∀ i, i ≤ xs.length → 0 ≤ (xs.take i).sum ∧ (xs.take i).sum ≤ 1000000001 * i := by
    intro i
    induction i with
    | zero => simp
    | succ i ih =>
      intro hi
      have h1 := ih (by omega)
      have h2 := hx xs[i] (List.getElem_mem (by omega))
      rw [List.take_add_one, List.sum_append, List.getElem?_eq_getElem (by omega)]
      simp only [Option.toList_some, List.sum_cons, List.sum_nil]
      omega
  have h := loop_idx (body := impl_TotalWalks_b2 xs) xs.length (fun i => (v + (xs.take i).sum, (i : Int))) (v + xs.sum) (fun i hi => by
    have h1 := hb i (by omega)
    have h2 := hb (i + 1) (by omega)
    have h3 : (xs.take (i + 1)).sum = (xs.take i).sum + xs[i] := by
      rw [List.take_add_one, List.sum_append, List.getElem?_eq_getElem hi]; simp
    simp only [impl_TotalWalks_b2, idxO_lt hi, Option.bind_some, w64_nat (show i < 9223372036854775807 by omega), show ((i : Int) < (xs.length : Int)) from by omega, decide_true, if_true]
    rw [w64_id (by omega) (by omega), h3, Int.add_assoc]) (by simp [impl_TotalWalks_b2])
  simpa using h
def capAt (x : Int) : Int := if 1000000001 < x then 1000000001 else x
theorem cap_row (xs : List Int) (v : Int) (hv : 0 ≤ v) (hx : ∀ x ∈ xs, 0 ≤ x ∧ x ≤ 1000000001) (hl : xs.length ≤ 8) :
    loopO (spec_gwTotal_b2 xs) (capAt v, 0) = some (capAt (v + xs.sum)) := by
  have hb : ∀ i, i ≤ xs.length → 0 ≤ (xs.take i).sum := by
    intro i
    induction i with
    | zero => simp
    | succ i ih =>
      intro hi
      have h1 := ih (by omega)
      have h2 := hx xs[i] (List.getElem_mem (by omega))
      rw [List.take_add_one, List.sum_append, List.getElem?_eq_getElem (by omega)]
      simp only [Option.toList_some, List.sum_cons, List.sum_nil]
      omega
  have h := loop_idx (body := spec_gwTotal_b2 xs) xs.length (fun i => (capAt (v + (xs.take i).sum), (i : Int))) (capAt (v + xs.sum)) (fun i hi => by
    have h1 := hb i (by omega)
    have h2 := hx xs[i] (List.getElem_mem hi)
    have h3 : (xs.take (i + 1)).sum = (xs.take i).sum + xs[i] := by
      rw [List.take_add_one, List.sum_append, List.getElem?_eq_getElem hi]; simp
    simp only [spec_gwTotal_b2, idxO_lt hi, Option.bind_some, spec_grCap_eq, w64_nat (show i < 9223372036854775807 by omega), show ((i : Int) < (xs.length : Int)) from by omega, decide_true, if_true]
    rw [h3]
    have h4 : 0 ≤ capAt (v + (xs.take i).sum) ∧ capAt (v + (xs.take i).sum) ≤ 1000000001 := by unfold capAt; split <;> omega
    rw [w64_id (by omega) (by omega)]
    congr 3
    unfold capAt
    (repeat' split) <;> omega) (by simp [spec_gwTotal_b2])
  simpa using h
def total (g : List (List Int)) : Int := (g.map List.sum).sum
theorem sum_nonneg {xs : List Int} (hx : ∀ x ∈ xs, 0 ≤ x ∧ x ≤ 1000000001) : 0 ≤ xs.sum ∧ xs.sum ≤ 1000000001 * xs.length := by
  induction xs with
  | nil => simp
  | cons x xs ih =>
    have h1 := hx x (by simp)
    have h2 := ih fun y hy => hx y (by simp [hy])
    simp only [List.sum_cons, List.length_cons]; omega
theorem total_take {g : List (List Int)} (hx : ∀ row ∈ g, row.length ≤ 8 ∧ ∀ x ∈ row, 0 ≤ x ∧ x ≤ 1000000001) : ∀ i, i ≤ g.length → 0 ≤ total (g.take i) ∧ total (g.take i) ≤ 10000000000 * i := by
  intro i
  induction i with
  | zero => simp [total]
  | succ i ih =>
    intro hi
    have h1 := ih (by omega)
    have h2 := hx g[i] (List.getElem_mem (by omega))
    have h3 := sum_nonneg h2.2
    unfold total at h1 ⊢
    rw [List.take_add_one, List.map_append, List.sum_append, List.getElem?_eq_getElem (by omega)]
    simp only [Option.toList_some, List.map_cons, List.map_nil, List.sum_cons, List.sum_nil]
    omega
theorem total_succ {g : List (List Int)} {i : Nat} (hi : i < g.length) : total (g.take (i + 1)) = total (g.take i) + g[i].sum := by
  unfold total
  rw [List.take_add_one, List.map_append, List.sum_append, List.getElem?_eq_getElem hi]; simp
theorem impl_total (g : List (List Int)) (hl : g.length ≤ 8) (hx : ∀ row ∈ g, row.length ≤ 8 ∧ ∀ x ∈ row, 0 ≤ x ∧ x ≤ 1000000001) : loopO (impl_TotalWalks_b1 g) (0, 0) = some (total g) := by
  have h := loop_idx (body := impl_TotalWalks_b1 g) g.length (fun i => (total (g.take i), (i : Int))) (total g) (fun i hi => by
    have h1 := total_take hx i (by omega)
    have h2 := hx g[i] (List.getElem_mem hi)
    simp only [impl_TotalWalks_b1, idxO_lt hi, Option.bind_some, sum_row g[i] _ ⟨h1.1, by omega⟩ h2.2 h2.1, impl_TotalWalks_k2, w64_nat (show i < 9223372036854775807 by omega), show ((i : Int) < (g.length : Int)) from by omega, decide_true, if_true]
    rw [total_succ hi]) (by simp [impl_TotalWalks_b1])
  exact h
theorem spec_total (g : List (List Int)) (hl : g.length ≤ 8) (hx : ∀ row ∈ g, row.length ≤ 8 ∧ ∀ x ∈ row, 0 ≤ x ∧ x ≤ 1000000001) : loopO (spec_gwTotal_b1 g) (0, 0) = some (capAt (total g)) := by
  have h := loop_idx (body := spec_gwTotal_b1 g) g.length (fun i => (capAt (total (g.take i)), (i : Int))) (capAt (total g)) (fun i hi => by
    have h1 := total_take hx i (by omega)
    have h2 := hx g[i] (List.getElem_mem hi)
    simp only [spec_gwTotal_b1, idxO_lt hi, Option.bind_some, cap_row g[i] _ h1.1 h2.2 h2.1, spec_gwTotal_k2, w64_nat (show i < 9223372036854775807 by omega), show ((i : Int) < (g.length : Int)) from by omega, decide_true, if_true]
    rw [total_succ hi]) (by simp [spec_gwTotal_b1])
  exact h
theorem mat_rows {n : Nat} {F : Nat → Nat → Int} (hn : n ≤ 8) (hF : ∀ i j, i < n → j < n → 0 ≤ F i j ∧ F i j ≤ 1000000001) : ∀ row ∈ mat n n F, row.length ≤ 8 ∧ ∀ x ∈ row, 0 ≤ x ∧ x ≤ 1000000001 := by
  intro row hr
  obtain ⟨i, hi, rfl⟩ := tab_mem.1 hr
  refine ⟨by rw [tab_len]; exact hn, fun x hx => ?_⟩
  obtain ⟨j, hj, rfl⟩ := tab_mem.1 hx
  exact hF i j hi hj
/-- The number of all walks, if it is told. -/
def totalWalks (g : List (List Int)) (m : Int) : Int × Bool :=
  if isGraph g && inB 0 12 m then
    let t := total (mat g.length g.length (powN g.length (fun i j => (g.getD i []).getD j 0) 1000000001 m.toNat))
    if t > 1000000000 then (0, false) else (t, true)
  else (0, false)
theorem mat_self {n : Nat} {G : Nat → Nat → Int} (i j : Nat) (hi : i < n) (hj : j < n) : ((mat n n G).getD i []).getD j 0 = G i j := by
  simp [List.getD, mat, tab_get hi, tab_get hj]
theorem powN_congr {n : Nat} {G G' : Nat → Nat → Int} {most : Int} (h : ∀ i j, i < n → j < n → G i j = G' i j) : ∀ m i j, j < n → powN n G most m i j = powN n G' most m i j
  | 0, _, _, _ => rfl
  | m + 1, i, j, hj => by
    show foldN n _ 0 = foldN n _ 0
    exact foldN_ext fun b k hk => by rw [powN_congr h m i k hk, h k j hk hj]
theorem impl_TotalWalks_eq (g : List (List Int)) (m : Int) (hs : sized g) : impl_TotalWalks g m = some (totalWalks g m) := by
  unfold impl_TotalWalks totalWalks impl_isWalk
  rw [impl_isGraph_eq g hs]
  simp only [Option.bind_some, impl_within_eq]
  cases hg : isGraph g
  · rfl
  · cases hm : inB 0 12 m
    · rfl
    · obtain ⟨n, G, h1, h2, rfl, hG⟩ := isGraph_mat hg
      have hm' := inB_iff.1 hm
      obtain ⟨k, rfl⟩ := Int.eq_ofNat_of_zero_le hm'.1
      have e : mat n n (powN n (fun i j => ((mat n n G).getD i []).getD j 0) 1000000001 k) = mat n n (powN n G 1000000001 k) := mat_ext fun i j _ hj => powN_congr (fun i j hi hj => mat_self i j hi hj) k i j hj
      simp only [if_true, Bool.not_true, Bool.false_eq_true, if_false, Bool.and_self, impl_power, impl_powerUpTo_eq h2 k (by omega), Option.bind_some, mat_len, Int.toNat_natCast, e]
      rw [impl_total _ (by rw [mat_len]; exact h2) (mat_rows h2 fun i j hi hj => powN_range hG (by decide) (by decide) k i j hi hj)]
      simp only [Option.bind_some, impl_TotalWalks_k1]
      by_cases ht : total (mat n n (powN n G 1000000001 k)) > 1000000000 <;> simp [ht]
theorem spec_gwTotal_eq {n : Nat} {G : Nat → Nat → Int} (h2 : n ≤ 8) (hG : ∀ i j, i < n → j < n → 0 ≤ G i j ∧ G i j ≤ 9) (k : Nat) (hk : k ≤ 1048576) : spec_gwTotal (mat n n G) (k : Int) = some (capAt (total (mat n n (powN n G 1000000001 k)))) := by
  unfold spec_gwTotal
  rw [spec_grPower_eq h2 k hk, Option.bind_some, spec_total _ (by rw [mat_len]; exact h2) (mat_rows h2 fun i j hi hj => powN_range hG (by decide) (by decide) k i j hi hj)]
  rfl
theorem spec_TotalWalks_eq (g : List (List Int)) (m : Int) (hs : sized g) : spec_TotalWalks g m = some (totalWalks g m) := by
  unfold spec_TotalWalks totalWalks
  rw [spec_grGood_eq g hs]
  simp only [Option.bind_some, spec_grSteps, spec_l1In_eq]
  cases hg : isGraph g
  · rfl
  · cases hm : inB 0 12 m
    · rfl
    · obtain ⟨n, G, h1, h2, rfl, hG⟩ := isGraph_mat hg
      have hm' := inB_iff.1 hm
      obtain ⟨k, rfl⟩ := Int.eq_ofNat_of_zero_le hm'.1
      have e : mat n n (powN n (fun i j => ((mat n n G).getD i []).getD j 0) 1000000001 k) = mat n n (powN n G 1000000001 k) := mat_ext fun i j _ hj => powN_congr (fun i j hi hj => mat_self i j hi hj) k i j hj
      simp only [if_true, Bool.not_true, Bool.false_eq_true, if_false, Bool.and_self, Option.bind_some, mat_len, Int.toNat_natCast, e, spec_gwTotal_eq h2 hG k (by omega)]
      by_cases ht : total (mat n n (powN n G 1000000001 k)) > 1000000000
      · have : capAt (total (mat n n (powN n G 1000000001 k))) > 1000000000 := by unfold capAt; split <;> omega
        simp [ht, this]
      · have : capAt (total (mat n n (powN n G 1000000001 k))) = total (mat n n (powN n G 1000000001 k)) := by unfold capAt; split <;> omega
        simp [ht, this]
theorem laws_FnExactTotalWalks_eq (g : List (List Int)) (m : Int) (hl : g.length ≤ 9223372036854775807) (hr : ∀ row ∈ g, row.length ≤ 9223372036854775807) : laws_FnExactTotalWalks g m = some true := by
  obtain ⟨v, h1, h2⟩ := laws_szIntSS_eq g hl hr
  unfold laws_FnExactTotalWalks
  rw [h1, Option.bind_some]
  by_cases hv : v < 0
  · simp [hv]
  · have hs := h2 (by omega)
    simp only [hv, decide_false, Bool.false_eq_true, if_false, laws_toIntSS_eq g hs, spec_TotalWalks_eq g m hs, impl_TotalWalks_eq g m hs, laws_eqIntSS_self g hs, Option.bind_some]
    simp
/-! ### digits -/
theorem digits_ends (v : Int) (h : v ≤ 9223372036854775807) (d : Int) : ∃ r, loopO impl_WalkDigits_b1 (v, d) = some r := by
  obtain ⟨y, h1, _⟩ := loop_run (body := impl_WalkDigits_b1) (fun x => x.1 ≤ 9223372036854775807) (fun x => x.1.toNat) (fun _ => True) (fun ⟨a, b⟩ ha => by
    simp only at ha
    by_cases hlt : a > 1
    · left
      have h3 : Int.tdiv a 2 = a / 2 := Int.tdiv_eq_ediv_of_nonneg (by omega)
      refine ⟨(a / 2, w64 (b + 1)), ?_, by simp only []; omega, by simp only []; omega⟩
      simp only [impl_WalkDigits_b1, hlt, decide_true, if_true, h3]
      rw [w64_id (n := a / 2) (by omega) (by omega)]
    · right; exact ⟨b, by simp [impl_WalkDigits_b1, hlt], trivial⟩) (v, d) h
  exact ⟨y, h1⟩
theorem digits_same : spec_WalkDigits_b1 = impl_WalkDigits_b1 := rfl
theorem WalkDigits_same (g : List (List Int)) (m : Int) (hs : sized g) : ∃ r, impl_WalkDigits g m = some r ∧ spec_WalkDigits g m = some r := by
  unfold impl_WalkDigits spec_WalkDigits
  rw [impl_TotalWalks_eq g m hs, spec_grGood_eq g hs]
  simp only [Option.bind_some, spec_grSteps, spec_l1In_eq, totalWalks, digits_same]
  cases hg : isGraph g
  · exact ⟨_, rfl, rfl⟩
  · cases hm : inB 0 12 m
    · exact ⟨_, rfl, rfl⟩
    · obtain ⟨n, G, h1, h2, rfl, hG⟩ := isGraph_mat hg
      have hm' := inB_iff.1 hm
      obtain ⟨k, rfl⟩ := Int.eq_ofNat_of_zero_le hm'.1
      have e : mat n n (powN n (fun i j => ((mat n n G).getD i []).getD j 0) 1000000001 k) = mat n n (powN n G 1000000001 k) := mat_ext fun i j _ hj => powN_congr (fun i j hi hj => mat_self i j hi hj) k i j hj
      have hpos : 0 ≤ total (mat n n (powN n G 1000000001 k)) := by
        have := total_take (mat_rows h2 fun i j hi hj => powN_range hG (by decide) (by decide) k i j hi hj) n (by rw [mat_len]; exact Nat.le_refl _)
        rw [List.take_of_length_le (by rw [mat_len]; exact Nat.le_refl _)] at this
        exact this.1
      simp only [if_true, Bool.not_true, Bool.false_eq_true, if_false, Bool.and_self, Option.bind_some, mat_len, Int.toNat_natCast, e, spec_gwTotal_eq h2 hG k (by omega)]
      by_cases ht : total (mat n n (powN n G 1000000001 k)) > 1000000000
      · have : capAt (total (mat n n (powN n G 1000000001 k))) > 1000000000 := by unfold capAt; split <;> omega
        simp [ht, this]
      · have : capAt (total (mat n n (powN n G 1000000001 k))) = total (mat n n (powN n G 1000000001 k)) := by unfold capAt; split <;> omega
        obtain ⟨r, hr⟩ := digits_ends (total (mat n n (powN n G 1000000001 k))) (by omega) 0
        by_cases hz : total (mat n n (powN n G 1000000001 k)) = 0
        · have hc0 : capAt 0 = 0 := rfl
          simp [hz, hc0]
        · refine ⟨(r, true), ?_, ?_⟩ <;> simp [ht, hz, this, hr, impl_WalkDigits_k1, spec_WalkDigits_k1]
theorem laws_FnExactWalkDigits_eq (g : List (List Int)) (m : Int) (hl : g.length ≤ 9223372036854775807) (hr : ∀ row ∈ g, row.length ≤ 9223372036854775807) : laws_FnExactWalkDigits g m = some true := by
  obtain ⟨v, h1, h2⟩ := laws_szIntSS_eq g hl hr
  unfold laws_FnExactWalkDigits
  rw [h1, Option.bind_some]
  by_cases hv : v < 0
  · simp [hv]
  · have hs := h2 (by omega)
    obtain ⟨r, h3, h4⟩ := WalkDigits_same g m hs
    simp only [hv, decide_false, Bool.false_eq_true, if_false, laws_toIntSS_eq g hs, h3, h4, laws_eqIntSS_self g hs, Option.bind_some]
    simp
end Go.PV
