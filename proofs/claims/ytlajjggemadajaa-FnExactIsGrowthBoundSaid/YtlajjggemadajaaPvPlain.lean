/-
  Plain laws of loops, elements and wraps.
  Conditions: none.
-/
import Derived.Test.YtlajjggemadajaaPvRun6
import Derived.IntWalk
set_option linter.all false
namespace Go.PV
theorem w64_id {n : Int} (h1 : -9223372036854775808 ≤ n) (h2 : n ≤ 9223372036854775807) : w64 n = n := IntWalk.i64_in n ⟨h1, h2⟩
theorem w64_nat {n : Nat} (h2 : n < 9223372036854775807) : w64 ((n : Int) + 1) = ((n + 1 : Nat) : Int) := by
  rw [w64_id (by omega) (by omega)]; omega
section
variable {α β X Y : Type}
theorem idxO_nat (xs : List α) (i : Nat) : idxO xs (i : Int) = xs[i]? := by simp [idxO]
theorem idxO_lt {xs : List α} {i : Nat} (h : i < xs.length) : idxO xs (i : Int) = some xs[i] := by simp [idxO, h]
theorem guardO_pos {p : Prop} [Decidable p] (h : p) : guardO p = some () := by simp [guardO, h]
theorem guardO_bind_pos {p : Prop} [Decidable p] {f : Unit → Option α} (h : p) : (guardO p).bind f = f () := by simp [guardO, h]

/-- A loop that goes from stage to stage. -/
theorem loop_idx {body : X → Option (X ⊕ Y)} (n : Nat) (S : Nat → X) (y : Y) (h1 : ∀ i, i < n → body (S i) = some (.inl (S (i + 1)))) (h2 : body (S n) = some (.inr y)) : loopO body (S 0) = some y := by
  have : ∀ k, k ≤ n → loopO body (S (n - k)) = some y := by
    intro k
    induction k with
    | zero => intro _; rw [loopO_eq, Nat.sub_zero, h2]
    | succ k ih =>
      intro hk
      rw [loopO_eq, h1 _ (by omega)]
      have := ih (by omega)
      rwa [show n - (k + 1) + 1 = n - k by omega]
  simpa using this n (Nat.le_refl n)
/-- A loop by what holds in it and what falls in it. -/
theorem loop_run {body : X → Option (X ⊕ Y)} (Inv : X → Prop) (μ : X → Nat) (R : Y → Prop) (h : ∀ x, Inv x → (∃ x', body x = some (.inl x') ∧ Inv x' ∧ μ x' < μ x) ∨ (∃ y, body x = some (.inr y) ∧ R y)) (x0 : X) (h0 : Inv x0) : ∃ y, loopO body x0 = some y ∧ R y := by
  have : ∀ n x, μ x = n → Inv x → ∃ y, loopO body x = some y ∧ R y := by
    intro n
    induction n using Nat.strongRecOn with
    | ind n ih =>
      intro x hx hi
      rcases h x hi with ⟨x', h1, h2, h3⟩ | ⟨y, h1, h2⟩
      · obtain ⟨y, h4, h5⟩ := ih _ (by omega) x' rfl h2
        exact ⟨y, by rw [loopO_eq, h1]; exact h4, h5⟩
      · exact ⟨y, by rw [loopO_eq, h1], h2⟩
  exact this _ x0 rfl h0
/-- A loop over a list that stops at the first of its kind. -/
theorem loop_first {xs : List α} {body : X → Option (X ⊕ Y)} (p : α → Bool) (S : Nat → X) (yes : Nat → Y) (no : Y) (h1 : ∀ i x, xs[i]? = some x → body (S i) = some (if p x then .inr (yes i) else .inl (S (i + 1)))) (h2 : body (S xs.length) = some (.inr no)) :
    loopO body (S 0) = some (match xs.findIdx? p with | some i => yes i | none => no) := by
  cases h : xs.findIdx? p with
  | none =>
    have hn := List.findIdx?_eq_none_iff.1 h
    refine loop_idx xs.length S no (fun i hi => ?_) h2
    rw [h1 i xs[i] (List.getElem?_eq_getElem hi), hn _ (List.getElem_mem hi)]; rfl
  | some m =>
    obtain ⟨hm, hp, hlt⟩ := List.findIdx?_eq_some_iff_getElem.1 h
    refine loop_idx m S (yes m) (fun i hi => ?_) ?_
    · rw [h1 i xs[i] (List.getElem?_eq_getElem (by omega))]
      have := hlt i hi
      simp [this]
    · rw [h1 m xs[m] (List.getElem?_eq_getElem hm), hp]; rfl
theorem loop_any {xs : List α} {body : X → Option (X ⊕ Y)} (p : α → Bool) (S : Nat → X) (yes no : Y) (h1 : ∀ i x, xs[i]? = some x → body (S i) = some (if p x then .inr yes else .inl (S (i + 1)))) (h2 : body (S xs.length) = some (.inr no)) :
    loopO body (S 0) = some (if xs.any p then yes else no) := by
  rw [loop_first p S (fun _ => yes) no h1 h2]
  cases h : xs.findIdx? p with
  | none =>
    have hn := List.findIdx?_eq_none_iff.1 h
    have : xs.any p = false := by simpa using hn
    simp [this]
  | some m =>
    obtain ⟨hm, hp, _⟩ := List.findIdx?_eq_some_iff_getElem.1 h
    have : xs.any p = true := by simp; exact ⟨xs[m], List.getElem_mem hm, hp⟩
    simp [this]
theorem getElem?_lt {xs : List α} {i : Nat} {x : α} (h : xs[i]? = some x) : i < xs.length := (List.getElem?_eq_some_iff.1 h).1
end
end Go.PV
