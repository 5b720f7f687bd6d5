/-
  A walk over pure values: every operation that only yields is sound.
  Conditions: none.
-/
import Derived.Test.YtlajjggemadajaaPvO
set_option linter.all false
namespace Go.PV
variable {P : Program} {N : Nat} {w0 : World} {A : Nat → Prop} {I : List Nat}

theorem pure_ok {σ : St} {a : Act} {w : World} {L : Lab} (hR : Rel P N N w0 A I σ a w L) {o : Oper} (hs : ∀ cs b, o.op ≠ .select cs b) {v : Value} (h : PureRun P (evS σ) o v) : (execOp a.eval o).run P w = .ok (.value v) w := by
  obtain ⟨ρ, h1, h2⟩ := h
  rw [execOp_congr (ρ' := ρ) o hs fun x hx => evS_p hR (h1 x hx)]
  exact h2 w

theorem len_ok {σ : St} {a : Act} {w : World} {L : Lab} (hR : Rel P N N w0 A I σ a w L) {rt : Nat → SV} (hrt : ∀ r, rt r = σ r ∨ rt r = .u) {t ty : TypeId} {x : Operand} {K : SV → Prop} (h : lenK P rt t (evS σ x) K) :
    ∃ v, K (.p v) ∧ (Builtin.len_ #[t] ty #[a.eval x]).run P w = .ok v w := by
  unfold lenK at h
  split at h
  · rename_i s hx
    rw [evS_p hR hx]
    exact ⟨_, h.2, by simp [Builtin.len_, run_underlying h.1, goInt]⟩
  · obtain ⟨o, rows, h1, h2, h3⟩ := h
    have hx : noTup (evS σ x) = true := by cases hx : evS σ x <;> simp_all [noTup, slOf, deref]
    obtain ⟨ad, cap, hv⟩ := slOf_slice hR hrt (evS_ok hR 0 x hx) h1
    obtain ⟨⟨e, sz⟩, he⟩ := Option.isSome_iff_exists.1 h2
    obtain ⟨i, hu, _⟩ := slE_spec he
    rw [hv]
    exact ⟨_, h3, by simp [Builtin.len_, run_underlying hu, goInt]⟩

theorem sOp_sound {σ : St} {a : Act} {w : World} {L : Lab} (hR : Rel P N N w0 A I σ a w L) {rt : Nat → SV} (hrt : ∀ r, rt r = σ r ∨ rt r = .u) {o : Oper} {K : SV → Prop} {next : Act → World → Prop} {Q : Exit → Act → World → Prop}
    (h : sOp P (evS σ) rt o K)
    (hn : ∀ v w' L1 sv, K sv → Rel P N (N + 1) w0 A I σ a w' L1 → RelS P (Zof w0 A L1 w') L1 w' (tmOf a) σ N v sv → next (a.put o.dst v) w') : o.wp P a w next Q := by
  have hev : ∀ z v, evS σ z = .p v → a.eval z = v := fun z v hz => evS_p hR hz
  have same : ∀ {v : Value} {sv : SV}, (execOp a.eval o).run P w = .ok (.value v) w → K sv → RelS P (Zof w0 A L w) L w (tmOf a) σ N v sv → o.wp P a w next Q :=
    fun {v sv} h1 h2 h3 => wp_val h1 (hn v w L sv h2 hR.up h3)
  have pureR : (∀ cs b, o.op ≠ .select cs b) → (∃ v, PureRun P (evS σ) o v ∧ K (.p v)) → o.wp P a w next Q := fun hs ⟨v, h1, h2⟩ => same (pure_ok hR hs h1) h2 rfl
  have grown : ∀ {v : Value} {sv : SV} {w' : World} {L1 : Lab}, (execOp a.eval o).run P w = .ok (.value v) w' → K sv → Rel P N (N + 1) w0 A I σ a w' L1 → RelS P (Zof w0 A L1 w') L1 w' (tmOf a) σ N v sv → o.wp P a w next Q :=
    fun {v sv w' L1} h1 h2 h3 h4 => wp_val h1 (hn v w' L1 sv h2 h3 h4)
  cases hop : o.op with
  | move x =>
    simp only [sOp, hop] at h
    exact same (by simp [execOp, hop]) h.2 (evS_ok hR N x h.1)
  | pick c x y =>
    simp only [sOp, hop] at h
    obtain ⟨t, h1, h2, h3⟩ := h
    refine same (v := if t then a.eval x else a.eval y) ?_ h3 ?_
    · simp [execOp, hop, hev _ _ h1, asBool]
    · cases t
      · simp at h2 h3 ⊢; exact evS_ok hR N y h2
      · simp at h2 h3 ⊢; exact evS_ok hR N x h2
  | binOp op t x y t' =>
    simp only [sOp, hop] at h
    rcases bin_ok (w := w) (a := a) (x := x) (y := y) hev h with hF | ⟨v, h1, h2⟩
    · exact pureR (by rw [hop]; intro _ _ h; cases h) hF
    · refine same (v := v) ?_ h1 rfl
      simp only [execOp, hop]
      rw [Sem.run_bind, h2]
      rfl
  | unOp op t x =>
    cases op with
    | neg =>
      simp only [sOp, hop] at h
      obtain ⟨k, n, h1, h2⟩ := h
      refine same (v := .int k (k.wrap (0 - n))) ?_ h2 rfl
      simp [execOp, hop, hev _ _ h1, Op.unary, Op.intArith]
    | not =>
      simp only [sOp, hop] at h
      obtain ⟨b, h1, h2⟩ := h
      refine same (v := .bool (!b)) ?_ h2 rfl
      simp [execOp, hop, hev _ _ h1, Op.unary]
    | _ => simp [sOp, hop] at h
  | convert src dst x =>
    simp only [sOp, hop] at h
    exact pureR (by rw [hop]; intro _ _ h; cases h) h
  | load t x =>
    simp only [sOp, hop] at h
    obtain ⟨v, sv, h1, h2, h3⟩ := load_ok hR hrt h
    refine same (v := v) ?_ h2 (h3 N)
    simp [execOp, hop, h1]
  | fieldAddr t x k =>
    simp only [sOp, hop] at h
    obtain ⟨off, h1, h2⟩ := h
    obtain ⟨v, sv, h3, h4, h5⟩ := fld_ok (K := K) hR h1 h2
    refine same (v := v) ?_ h4 (h5 N)
    simp [execOp, hop, h3]
  | indexAddr t x i =>
    simp only [sOp, hop] at h
    obtain ⟨v, sv, h1, h2, h3⟩ := idx_ok hR hrt h
    refine same (v := v) ?_ h2 (h3 N)
    simp [execOp, hop, h1]
  | extract x k =>
    simp only [sOp, hop] at h
    obtain ⟨l, y, h1, h2, h3, h4⟩ := h
    obtain ⟨t, rfl, ht⟩ := evS_tup h1
    have hs := hR.slot t
    rw [ht] at hs
    obtain ⟨arr, h5, h6, h7⟩ := hs
    have h8 := h7 k y h2
    have hk : k < arr.size := by have := (List.getElem?_eq_some_iff.1 h2).1; omega
    refine same (v := arr.getD k undef) ?_ h4 ?_
    · have : a.eval (.tmp t) = .tuple arr := h5
      simp [execOp, hop, this, Instr.extract, hk]
    · cases y <;> simp [isDR] at h3
      · exact h8
      · exact h8
  | alloc t =>
    simp only [sOp, hop] at h
    obtain ⟨cs, h1, h2⟩ := h
    obtain ⟨v, w', L1, h3, h4, h5⟩ := alloc_ok hR h1
    exact grown (by simp [execOp, hop, h3]) h2 h4 h5
  | makeSlice t l c =>
    simp only [sOp, hop] at h
    obtain ⟨n, h1, h2, h3, e, sz, h4, z, h5, h6, h7⟩ := h
    obtain ⟨v, w', L1, h8, h9, h10⟩ := makeSlice_ok hR h4 h3 h5 h6
    exact grown (by simp [execOp, hop, hev _ _ h1, hev _ _ h2, h8]) h7 h9 h10
  | buildSlice t n parts =>
    simp only [sOp, hop] at h
    obtain ⟨e, sz, h1, rows, h2, h3, h4, h5, h6, h7⟩ := h
    obtain ⟨v, w', L1, h8, h9, h10⟩ := buildSlice_ok hR h1 h2 h3 h4 h5 h6
    exact grown (by simp only [execOp, hop]; rw [Sem.run_bind, h8]; rfl) h7 h9 h10
  | slice t x lo hi mx =>
    cases mx with
    | some m => simp [sOp, hop] at h
    | none =>
      simp only [sOp, hop] at h
      split at h
      · rename_i rows hx
        obtain ⟨e, sz, h1, l, hh, h2, h3, h4, h5, h6, h7⟩ := h
        obtain ⟨v, h8, h9⟩ := slice_ok hR hx h1 h2 h3 h4 h5 h6
        refine same (v := v) ?_ h7 (h9 N)
        simp [execOp, hop, h8]
      · exact pureR (by rw [hop]; intro _ _ h; cases h) h
  | build t parts =>
    simp only [sOp, hop] at h
    obtain ⟨cs, h1, h2⟩ := h
    obtain ⟨v, h3, h4⟩ := build_ok hR h1
    refine same (v := v) ?_ h2 (h4 N)
    simp only [execOp, hop]
    rw [Sem.run_bind, h3]
    rfl
  | makeFunc fn first caps =>
    cases fn with
    | func f =>
      simp only [sOp, hop] at h
      obtain ⟨h0, as, h1, h2⟩ := h
      have hf : first = #[] := Array.eq_empty_of_size_eq_zero h0
      subst hf
      refine same (v := .func (.func f) #[] (caps.map a.eval)) ?_ h2 (makeFunc_ok hR h1 N)
      simp [execOp, hop, Instr.makeFunc]
    | _ => simp [sOp, hop] at h
  | field t x k =>
    simp only [sOp, hop] at h
    exact pureR (by rw [hop]; intro _ _ h; cases h) h
  | index t x i =>
    simp only [sOp, hop] at h
    exact pureR (by rw [hop]; intro _ _ h; cases h) h
  | call c =>
    obtain ⟨callee, args, ts⟩ := c
    have hns : ∀ cs b, o.op ≠ .select cs b := by rw [hop]; intro _ _ h; cases h
    cases callee with
    | value fn =>
      simp only [sOp, hop] at h
      obtain ⟨f, caps, as, res, h1, h2, h3, h4, h5, h6, h7⟩ := h
      obtain ⟨vs, h8, h9⟩ := call_ok (fz := false) hR hrt h1 h2 h3 h4 h5 (.inr h6)
      refine wp_call hop h8 h4.1 ?_
      have : args.toList.toArray = args := by simp
      rw [this] at h9
      refine h9.mono ?_
      rintro e w' ⟨v, L1, rfl, h10, h11⟩
      exact ⟨v, rfl, hn v w' L1 _ h7 h10 h11⟩
    | invoke r m =>
      simp only [sOp, hop] at h
      exact pureR hns h
    | builtin b =>
      cases b with
      | len =>
        simp only [sOp, hop] at h
        obtain ⟨x, t, h1, h2, h3⟩ := h
        subst h1 h2
        obtain ⟨v, h4, h5⟩ := len_ok (ty := o.type) hR hrt h3
        refine same (v := v) ?_ h4 rfl
        simp [execOp, hop, resolve, invoke, builtin, h5]
      | min =>
        simp only [sOp, hop] at h
        obtain ⟨x, y, k, m, n, h1, h2, h3, h4⟩ := h
        refine same (v := .int k (if n < m then n else m)) ?_ h4 rfl
        have : args = #[x, y] := by rw [← h1]
        subst this
        simp [execOp, hop, resolve, invoke, builtin, Builtin.min_, hev _ _ h2, hev _ _ h3, Builtin.min2]
      | max =>
        simp only [sOp, hop] at h
        obtain ⟨x, y, k, m, n, h1, h2, h3, h4⟩ := h
        refine same (v := .int k (if m < n then n else m)) ?_ h4 rfl
        have : args = #[x, y] := by rw [← h1]
        subst this
        simp [execOp, hop, resolve, invoke, builtin, Builtin.max_, hev _ _ h2, hev _ _ h3, Builtin.max2]
      | _ =>
        simp only [sOp, hop] at h
        exact pureR hns h
  | _ => simp [sOp, hop] at h
end Go.PV
