/-
  A walk over pure values: code is sound.
  Conditions: none.
-/
import Derived.Test.YtlajjggemadajaaPvZb
set_option linter.all false
namespace Go.PV
variable {P : Program} {N : Nat} {w0 : World} {A : Nat → Prop} {I : List Nat}

theorem region_sound {ops : Array Oper} {id : Nat} {K : St → Prop} {Q : Exit → Act → World → Prop} (hO : opsB N ops.toList = true) (hK : ∀ a w σ L, K σ → Rel P N N w0 A I σ a w L → Q .normal a w) {σ : St} {a : Act} {w : World} {L : Lab}
    (hR : Rel P N N w0 A I σ a w L) (h : pvL P ops ops.toList σ K) : (Code.region id ops false).wp P Q a w := by
  refine wp_region ?_
  have := pvL_sound hO hK ops.toList 0 σ a w L (fun j => by simp) hR h
  rw [List.range_eq_range']
  simpa using this

theorem lift_then {Q : Ex → St → Prop} {K : St → Prop} {next : Act → World → Prop} (hn : ∀ a w σ L, K σ → Rel P N N w0 A I σ a w L → next a w) :
    ∀ e a w, lift P N w0 A I (seqQ K Q) e a w → Exit.then next (lift P N w0 A I Q) e a w := fun e a w h => by
  cases e with
  | normal => obtain ⟨σ, L, h1, h2⟩ := h; exact hn a w σ L h2 h1
  | exit id => exact h
  | ret => exact h
  | _ => exact h.elim

/-- **The walk over code is sound.** -/
theorem Ok_of_pvC : ∀ (c : Code) (σ : St) (Q : Ex → St → Prop), pvC P N c σ Q → Ok P N c σ Q
  | .skip, σ, Q, h => fun _ w0 A a w L hR => wp_skip ⟨σ, L, hR, h⟩
  | .region id ops false, σ, Q, h => fun hB w0 A a w L hR => region_sound hB (fun a w σ L h1 h2 => ⟨σ, L, h2, h1⟩) hR h
  | .region id ops true, σ, Q, h => fun hB w0 A a w L hR => by
    obtain ⟨hm, n, h1, hh, h2⟩ := h
    exact draw_sound hm h1 hB (fun a w σ L h1 h2 => ⟨σ, L, h2, h1⟩) hR hh h2
  | .seq x y, σ, Q, h => fun hB w0 A a w L hR => by
    simp only [codeB, Bool.and_eq_true] at hB
    exact wp_seq (wp_mono (Ok_of_pvC x σ _ h hB.1 w0 A a w L hR) (lift_then fun a w σ L h1 h2 => Ok_of_pvC y σ Q h1 hB.2 w0 A a w L h2))
  | .cond c x y, σ, Q, h => fun hB w0 A a w L hR => by
    simp only [codeB, Bool.and_eq_true] at hB
    obtain ⟨t, h1, h2⟩ := h
    refine wp_cond (evS_p hR h1) ?_
    cases t
    · exact Ok_of_pvC y σ Q h2 hB.2 w0 A a w L hR
    · exact Ok_of_pvC x σ Q h2 hB.1 w0 A a w L hR
  | .block id c, σ, Q, h => fun hB w0 A a w L hR => by
    refine wp_block (wp_mono (Ok_of_pvC c σ _ h hB w0 A a w L hR) fun e a w h => ?_)
    cases e with
    | normal => exact h
    | exit i =>
      obtain ⟨σ', L', h1, h2⟩ := h
      simp only [Exit.inBlock]
      unfold blockQ at h2
      split
      · rename_i hi
        simp only [hi, if_true] at h2
        exact ⟨σ', L', h1, h2⟩
      · rename_i hi
        simp only [hi, if_false] at h2
        exact ⟨σ', L', h1, h2⟩
    | ret => exact h
    | _ => exact h.elim
  | .loop c, σ, Q, h => h
  | .exit id, σ, Q, h => fun _ w0 A a w L hR => wp_exit ⟨σ, L, hR, h⟩
  | .ret, σ, Q, h => fun _ w0 A a w L hR => wp_ret ⟨σ, L, hR, h⟩
  | .label _, _, _, h => h.elim
  | .goto _, _, _, h => h.elim

/-! ### loops -/
theorem Rel.forget {M : Nat} {σ σ' : St} {a : Act} {w : World} {L : Lab} (hR : Rel P N M w0 A I σ a w L) (h : ∀ s, σ' s = .u ∨ (σ' s = σ s ∧ ∀ r, refOf (σ s) = some r → σ' r = σ r)) : Rel P N M w0 A I σ' a w L :=
  ⟨hR.dfr, hR.siz, hR.ev, hR.inj, hR.lab, fun s hs => by
    rcases h s with h1 | h1
    · exact h1
    · rw [h1.1]; exact hR.out s hs, hR.hA, fun s => by
    rcases h s with h1 | ⟨h1, h2⟩
    · rw [h1]; trivial
    · rw [h1]
      exact RelS.keep (hR.slot s) (fun b h => ⟨h, rfl⟩) (fun b q _ h => ⟨h, rfl⟩) fun r hr hroot => ⟨fun b q h => ⟨h, rfl⟩, rfl, by rw [h2 r hr]; exact hroot, by rw [h2 r hr]⟩⟩

theorem ofL_agree : ∀ (l : List (Nat × SV)) {σ : St}, (∀ x ∈ l, σ x.1 = x.2) → ∀ s, (ofL l s = .u ∧ s ∉ l.map (·.1)) ∨ (s ∈ l.map (·.1) ∧ ofL l s = σ s)
  | [], σ, _, s => .inl ⟨rfl, by simp⟩
  | (k, x) :: l, σ, h, s => by
    by_cases hs : s = k
    · subst hs
      right
      refine ⟨by simp, ?_⟩
      simp only [ofL, upd, if_pos]
      exact (h (s, x) (by simp)).symm
    · rcases ofL_agree l (fun x hx => h x (by simp [hx])) s with ⟨h1, h2⟩ | ⟨h1, h2⟩
      · exact .inl ⟨by simp [ofL, upd, hs, h1], by simp [hs]; simpa using h2⟩
      · exact .inr ⟨List.mem_cons_of_mem _ h1, by simp [ofL, upd, hs, h2]⟩

theorem agree_rel {M : Nat} {σ : St} {a : Act} {w : World} {L : Lab} {l : List (Nat × SV)} (hR : Rel P N M w0 A I σ a w L) (h : agree l σ) : Rel P N M w0 A I (ofL l) a w L := by
  refine hR.forget fun s => ?_
  rcases ofL_agree l h.2 s with ⟨h1, _⟩ | ⟨h1, h2⟩
  · exact .inl h1
  · right
    refine ⟨h2, fun r hr => ?_⟩
    obtain ⟨x, hx, rfl⟩ := List.mem_map.1 h1
    have h3 := List.all_eq_true.1 h.1 x hx
    have h4 : r ∈ l.map (·.1) := by
      rw [h.2 x hx] at hr
      cases hx2 : x.2 <;> rw [hx2] at hr h3 <;> simp [refOf] at hr <;> subst hr <;> simpa [refOk] using h3
    rcases ofL_agree l h.2 r with ⟨_, h5⟩ | ⟨_, h5⟩
    · exact absurd h4 h5
    · exact h5

theorem least_ex {p : Nat → Prop} (h : ∃ n, p n) : ∃ n, p n ∧ ∀ m, p m → n ≤ m := by
  obtain ⟨n, hn⟩ := h
  induction n using Nat.strongRecOn with
  | ind n ih =>
    by_cases hx : ∃ m, m < n ∧ p m
    · obtain ⟨m, h1, h2⟩ := hx; exact ih m h1 h2
    · refine ⟨n, hn, fun m hm => ?_⟩
      rcases Nat.lt_or_ge m n with h1 | h1
      · exact absurd ⟨m, h1, hm⟩ hx
      · exact h1

theorem wp_loop_x {c : Code} {X : Type} {Q : Exit → Act → World → Prop} {a : Act} {w : World} (J : X → Act → World → Prop) (μ : X → Nat) (x0 : X) (h0 : J x0 a w)
    (hr : ∀ x a w, J x a w → c.wp P (Exit.then (fun a' w' => ∃ x', J x' a' w' ∧ μ x' < μ x) Q) a w) : (Code.loop c).wp P Q a w := by
  let ν : Act → World → Nat := fun a w => Classical.epsilon fun n => (∃ x, J x a w ∧ μ x = n) ∧ ∀ m, (∃ x, J x a w ∧ μ x = m) → n ≤ m
  have hν : ∀ a w, (∃ x, J x a w) → (∃ x, J x a w ∧ μ x = ν a w) ∧ ∀ m, (∃ x, J x a w ∧ μ x = m) → ν a w ≤ m := fun a w ⟨x, hx⟩ =>
    Classical.epsilon_spec (p := fun n => (∃ x, J x a w ∧ μ x = n) ∧ ∀ m, (∃ x, J x a w ∧ μ x = m) → n ≤ m) (least_ex ⟨μ x, x, hx, rfl⟩)
  refine wp_loop (fun a w => ∃ x, J x a w) ν ⟨x0, h0⟩ fun a w hx => ?_
  obtain ⟨⟨x, h1, h2⟩, _⟩ := hν a w hx
  refine wp_mono (hr x a w h1) fun e a' w' h => ?_
  cases e with
  | normal =>
    obtain ⟨x', h3, h4⟩ := h
    exact ⟨⟨x', h3⟩, by have := (hν a' w' ⟨x', h3⟩).2 _ ⟨x', h3, rfl⟩; omega⟩
  | _ => exact h

/-- **Loops**: a list of slots with what they hold, and a measure. -/
theorem Ok_loop {c : Code} {σ : St} {Q : Ex → St → Prop} {X : Type} (J : X → List (Nat × SV)) (μ : X → Nat) (x0 : X) (h0 : agree (J x0) σ)
    (hr : ∀ x, pvC P N c (ofL (J x)) (seqQ (fun σ' => ∃ x', agree (J x') σ' ∧ μ x' < μ x) Q)) : Ok P N (.loop c) σ Q := by
  intro hB w0 A a w L hR
  refine wp_loop_x (fun x a w => ∃ L, Rel P N N w0 A [] (ofL (J x)) a w L) μ x0 ⟨L, agree_rel hR h0⟩ fun x a w ⟨L, hR⟩ => ?_
  exact wp_mono (Ok_of_pvC c _ _ (hr x) hB w0 A a w L hR) (lift_then fun a w σ L ⟨x', h1, h2⟩ h3 => ⟨x', ⟨L, agree_rel h3 h1⟩, h2⟩)
end Go.PV
