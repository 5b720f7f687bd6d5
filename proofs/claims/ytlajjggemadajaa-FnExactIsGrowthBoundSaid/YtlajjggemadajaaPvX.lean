/-
  A walk over pure values: lists of operations in the text's order; what an operation yields, and what it hangs on.
  Conditions: none.
-/
import Derived.Test.YtlajjggemadajaaPvW
set_option linter.all false
namespace Go.PV
variable {P : Program} {N : Nat} {w0 : World} {A : Nat → Prop} {I : List Nat}

theorem gOp_ok {σ : St} {a : Act} {w : World} {L : Lab} (hR : Rel P N N w0 A I σ a w L) {ops : Array Oper} {o : Oper} {run skip : Prop} (h : gOp ops o σ run skip) :
    (Region.wanted o (yielded ops a.tmps) = true ∧ run) ∨ (Region.wanted o (yielded ops a.tmps) = false ∧ skip) := by
  unfold gOp at h
  unfold Region.wanted
  cases hg : o.guard with
  | none => rw [hg] at h; exact .inl ⟨rfl, h⟩
  | some jw =>
    obtain ⟨j, want⟩ := jw
    rw [hg] at h
    obtain ⟨d, hd, h⟩ := h
    have hs := hR.slot d
    have hy : yielded ops a.tmps j = match a.tmps[d]? with | some (.bool b) => some b | _ => none := by
      unfold yielded
      rw [hd]
      rfl
    split at h
    · rename_i b hσ
      rw [hσ] at hs
      have hv : a.tmps.getD d undef = .bool b := hs
      have : a.tmps[d]? = some (.bool b) := by
        rw [Array.getD_eq_getD_getElem?] at hv
        cases hx : a.tmps[d]? with
        | none => rw [hx] at hv; cases hv
        | some v => rw [hx] at hv; exact congrArg some hv
      simp only [hy, this]
      by_cases hb : b = want
      · subst hb; rw [if_pos rfl] at h; exact .inl ⟨by simp, h⟩
      · rw [if_neg hb] at h; exact .inr ⟨by simpa using hb, h⟩
    · rename_i vs hσ
      rw [hσ] at hs
      obtain ⟨h0, h⟩ := h
      obtain rfl := Array.eq_empty_of_size_eq_zero h0
      have hv : a.tmps.getD d undef = undef := hs
      right
      refine ⟨?_, h⟩
      show (yielded ops a.tmps j == some want) = false
      rw [hy]
      rw [Array.getD_eq_getD_getElem?] at hv
      cases hx : a.tmps[d]? with
      | none => rfl
      | some v => rw [hx] at hv; simp at hv; subst hv; rfl
    · exact h.elim

/-- **Operations in the text's order are sound.** -/
theorem pvL_sound {ops : Array Oper} {Q : Exit → Act → World → Prop} {K : St → Prop} (hB : opsB N ops.toList = true) (hK : ∀ a w σ L, K σ → Rel P N N w0 A I σ a w L → Q .normal a w) : ∀ (l : List Oper) (k : Nat) (σ : St) (a : Act) (w : World) (L : Lab),
    (∀ j, l[j]? = ops[k + j]?) → Rel P N N w0 A I σ a w L → pvL P ops l σ K → wpOps P ops Q (List.range' k l.length) a w
  | [], k, σ, a, w, L, _, hR, h => hK a w σ L h hR
  | o :: l, k, σ, a, w, L, hl, hR, h => by
    have ho : ops[k]? = some o := by simpa using (hl 0).symm
    have hl' : ∀ j, l[j]? = ops[k + 1 + j]? := fun j => by have := hl (j + 1); simpa [Nat.add_assoc, Nat.add_comm 1 j] using this
    have hd : ∀ d, o.dst = some d → d < N := fun d hd => by
      have := List.all_eq_true.1 hB o (by have := Array.mem_of_getElem? ho; simpa using this)
      rw [hd] at this
      simpa using this
    simp only [List.length_cons, List.range'_succ, wpOps, ho]
    rcases gOp_ok hR h with ⟨h1, h2⟩ | ⟨h1, h2⟩
    · rw [if_pos h1]
      exact .inl (pvOp_sound hR hd h2 fun a' w' σ' L' h3 h4 => pvL_sound hB hK l (k + 1) σ' a' w' L' hl' h4 h3)
    · rw [if_neg (by rw [h1]; simp)]
      obtain ⟨L', h3⟩ := putO_ok (tv := undef) (sv := .p (.tuple #[])) hR.up rfl o.dst hd
      exact pvL_sound hB hK l (k + 1) _ _ w L' hl' h3 h2

/-! ### what an operation yields -/
theorem binK_yield {op : BinOp} {t : TypeId} {x y : SV} {F : (SV → Prop) → Prop} {K : SV → Prop} (hF : ∀ K, F K → ∃ v, K v ∧ ∀ K', K' v → F K') (h : binK P op t x y (F K) K) : ∃ v, K v ∧ ∀ K', K' v → binK P op t x y (F K') K' := by
  unfold binK at h ⊢
  split at h
  · obtain ⟨rfl, h⟩ := h
    unfold intK at h
    cases op <;> first
      | (obtain ⟨v, h1, h2⟩ := hF K h; exact ⟨v, h1, fun K' hk => ⟨rfl, h2 K' hk⟩⟩)
      | exact ⟨_, h, fun K' hk => ⟨rfl, hk⟩⟩
      | exact ⟨_, h.2, fun K' hk => ⟨rfl, h.1, hk⟩⟩
  · unfold boolK at h
    cases op <;> first
      | (obtain ⟨v, h1, h2⟩ := hF K h; exact ⟨v, h1, fun K' hk => h2 K' hk⟩)
      | exact ⟨_, h.2, fun K' hk => ⟨h.1, hk⟩⟩
  · unfold strK at h
    cases op <;> first
      | (obtain ⟨v, h1, h2⟩ := hF K h; exact ⟨v, h1, fun K' hk => h2 K' hk⟩)
      | exact ⟨_, h, fun K' hk => hk⟩
      | exact ⟨_, h.2, fun K' hk => ⟨h.1, hk⟩⟩
  · exact hF K h

theorem sOp_yield {ev : Operand → SV} {rt : Nat → SV} {o : Oper} {K : SV → Prop} (h : sOp P ev rt o K) : ∃ x, K x ∧ ∀ K' : SV → Prop, K' x → sOp P ev rt o K' := by
  have pur : ∀ K : SV → Prop, (∃ v, PureRun P ev o v ∧ K (.p v)) → ∃ x, K x ∧ ∀ K' : SV → Prop, K' x → ∃ v, PureRun P ev o v ∧ K' (.p v) := fun K ⟨v, h1, h2⟩ => ⟨.p v, h2, fun K' hk => ⟨v, h1, hk⟩⟩
  cases hop : o.op with
  | move x => simp only [sOp, hop] at h ⊢; exact ⟨_, h.2, fun K' hk => ⟨h.1, hk⟩⟩
  | pick c x y => simp only [sOp, hop] at h ⊢; obtain ⟨t, h1, h2, h3⟩ := h; exact ⟨_, h3, fun K' hk => ⟨t, h1, h2, hk⟩⟩
  | binOp op t x y t' =>
    simp only [sOp, hop] at h ⊢
    exact binK_yield (F := fun K => ∃ v, PureRun P ev o v ∧ K (.p v)) pur h
  | unOp op t x =>
    cases op with
    | neg => simp only [sOp, hop] at h ⊢; obtain ⟨k, n, h1, h2⟩ := h; exact ⟨_, h2, fun K' hk => ⟨k, n, h1, hk⟩⟩
    | not => simp only [sOp, hop] at h ⊢; obtain ⟨b, h1, h2⟩ := h; exact ⟨_, h2, fun K' hk => ⟨b, h1, hk⟩⟩
    | _ => simp [sOp, hop] at h
  | convert src dst x => simp only [sOp, hop] at h ⊢; exact pur K h
  | load t x =>
    simp only [sOp, hop] at h ⊢
    obtain ⟨g, n, h1, h2, h3⟩ := h
    cases hx : ev x with
    | fadr cs =>
      rw [hx] at h3
      refine ⟨_, h3.2, fun K' hk => ⟨g, n, h1, h2, ?_⟩⟩
      exact ⟨h3.1, hk⟩
    | addr r q =>
      rw [hx] at h3
      obtain ⟨cs, h4, h5, h6⟩ := h3
      refine ⟨_, h6, fun K' hk => ⟨g, n, h1, h2, ?_⟩⟩
      exact ⟨cs, h4, h5, hk⟩
    | _ => rw [hx] at h3; exact h3.elim
  | fieldAddr t x k =>
    simp only [sOp, hop] at h ⊢
    obtain ⟨off, h1, h2⟩ := h
    cases hx : ev x with
    | fadr cs => rw [hx] at h2; exact ⟨_, h2, fun K' hk => ⟨off, h1, hk⟩⟩
    | addr r q => rw [hx] at h2; exact ⟨_, h2, fun K' hk => ⟨off, h1, hk⟩⟩
    | _ => rw [hx] at h2; exact h2.elim
  | indexAddr t x i =>
    simp only [sOp, hop] at h ⊢
    unfold idxK at h ⊢
    split at h
    · obtain ⟨h0, e, sz, ow, rows, row, h1, h2, h3, h4, h5⟩ := h
      cases ow with
      | none => exact ⟨_, h5, fun K' hk => ⟨h0, e, sz, none, rows, row, h1, h2, h3, h4, hk⟩⟩
      | some e' =>
        cases hx : ev x with
        | ref r q n =>
          cases n with
          | none =>
            rw [hx] at h5 h2
            exact ⟨_, h5, fun K' hk => ⟨h0, e, sz, some e', rows, row, h1, h2, h3, h4, hk⟩⟩
          | some n => rw [hx] at h5; exact h5.elim
        | _ => rw [hx] at h5; exact h5.elim
    · exact h.elim
  | extract x k => simp only [sOp, hop] at h ⊢; obtain ⟨l, y, h1, h2, h3, h4⟩ := h; exact ⟨_, h4, fun K' hk => ⟨l, y, h1, h2, h3, hk⟩⟩
  | alloc t => simp only [sOp, hop] at h ⊢; obtain ⟨cs, h1, h2⟩ := h; exact ⟨_, h2, fun K' hk => ⟨cs, h1, hk⟩⟩
  | makeSlice t l c =>
    simp only [sOp, hop] at h ⊢
    obtain ⟨n, h1, h2, h3, e, sz, h4, z, h5, h6, h7⟩ := h
    exact ⟨_, h7, fun K' hk => ⟨n, h1, h2, h3, e, sz, h4, z, h5, h6, hk⟩⟩
  | buildSlice t n parts =>
    simp only [sOp, hop] at h ⊢
    obtain ⟨e, sz, h1, rows, h2, h3, h4, h5, h6, h7⟩ := h
    exact ⟨_, h7, fun K' hk => ⟨e, sz, h1, rows, h2, h3, h4, h5, h6, hk⟩⟩
  | slice t x lo hi mx =>
    cases mx with
    | some m => simp [sOp, hop] at h
    | none =>
      simp only [sOp, hop] at h ⊢
      split at h
      · obtain ⟨e, sz, h1, l, hh, h2, h3, h4, h5, h6, h7⟩ := h
        exact ⟨_, h7, fun K' hk => ⟨e, sz, h1, l, hh, h2, h3, h4, h5, h6, hk⟩⟩
      · exact pur K h
  | build t parts => simp only [sOp, hop] at h ⊢; obtain ⟨cs, h1, h2⟩ := h; exact ⟨_, h2, fun K' hk => ⟨cs, h1, hk⟩⟩
  | makeFunc fn first caps =>
    cases fn with
    | func f => simp only [sOp, hop] at h ⊢; obtain ⟨h0, as, h1, h2⟩ := h; exact ⟨_, h2, fun K' hk => ⟨h0, as, h1, hk⟩⟩
    | _ => simp [sOp, hop] at h
  | field t x k => simp only [sOp, hop] at h ⊢; exact pur K h
  | index t x i => simp only [sOp, hop] at h ⊢; exact pur K h
  | call c =>
    obtain ⟨callee, args, ts⟩ := c
    cases callee with
    | value fn =>
      simp only [sOp, hop] at h ⊢
      obtain ⟨f, caps, as, res, h1, h2, h3, h4, h5, h6, h7⟩ := h
      exact ⟨_, h7, fun K' hk => ⟨f, caps, as, res, h1, h2, h3, h4, h5, h6, hk⟩⟩
    | invoke r m => simp only [sOp, hop] at h ⊢; exact pur K h
    | builtin b =>
      cases b with
      | len =>
        simp only [sOp, hop] at h ⊢
        obtain ⟨x, t, h1, h2, h3⟩ := h
        unfold lenK at h3
        split at h3
        · rename_i s hx
          exact ⟨_, h3.2, fun K' hk => ⟨x, t, h1, h2, by unfold lenK; rw [hx]; exact ⟨h3.1, hk⟩⟩⟩
        · rename_i hx
          obtain ⟨ow, rows, h4, h5, h6⟩ := h3
          refine ⟨_, h6, fun K' hk => ⟨x, t, h1, h2, ?_⟩⟩
          unfold lenK
          split
          · rename_i s hs; exact absurd hs (hx s)
          · exact ⟨ow, rows, h4, h5, hk⟩
      | min => simp only [sOp, hop] at h ⊢; obtain ⟨x, y, k, m, n, h1, h2, h3, h4⟩ := h; exact ⟨_, h4, fun K' hk => ⟨x, y, k, m, n, h1, h2, h3, hk⟩⟩
      | max => simp only [sOp, hop] at h ⊢; obtain ⟨x, y, k, m, n, h1, h2, h3, h4⟩ := h; exact ⟨_, h4, fun K' hk => ⟨x, y, k, m, n, h1, h2, h3, hk⟩⟩
      | _ => simp only [sOp, hop] at h ⊢; exact pur K h
  | _ => simp [sOp, hop] at h
end Go.PV
