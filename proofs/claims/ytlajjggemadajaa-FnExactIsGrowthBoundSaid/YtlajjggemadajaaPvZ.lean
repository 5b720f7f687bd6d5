/-
  A walk over pure values: operations in whatever order.
  Conditions: none.
-/
import Derived.Test.YtlajjggemadajaaPvY
import Derived.Orders
set_option linter.all false
namespace Go.PV
variable {P : Program} {N : Nat} {w0 : World} {A : Nat → Prop} {I : List Nat}

theorem Rel.world {M : Nat} {σ : St} {a : Act} {w w' : World} {L : Lab} (hR : Rel P N M w0 A I σ a w L) (h1 : w'.heap = w.heap) (h2 : w'.os = w.os) (h3 : w'.tape = w.tape) (h4 : w'.output = w.output) : Rel P N M w0 A I σ a w' L :=
  ⟨hR.dfr, hR.siz, ⟨h2.trans hR.ev.os, h3.trans hR.ev.tape, h4.trans hR.ev.output, by rw [h1]; exact hR.ev.size, by rw [h1]; exact hR.ev.block⟩, hR.inj, by rw [h1]; exact hR.lab, hR.out, hR.hA,
    fun s => RelS.keep (hR.slot s) (fun b h => ⟨⟨h.1, by rw [h1]; exact h.2.1, h.2.2⟩, by rw [h1]⟩) (fun b q _ h => ⟨h, by rw [h1]⟩) fun r _ hr => ⟨fun b q h => ⟨h, by rw [h1]⟩, rfl, hr, rfl⟩⟩

/-! ### one operation -/
/-- The operation writes x at d. -/
def stepD (P : Program) (ops : Array Oper) (rt : Nat → SV) (o : Oper) (σ : St) (d : Nat) (x : SV) : Prop :=
  (o.dst = some d ∧ stOf o = none ∧ isRoot (σ d) = false ∧ gOp ops o σ (match o.op with
    | .assign y => ∃ v, evS σ y = .p v ∧ x = .p v
    | _ => sOp P (evS σ) (rtL rt o σ) o (fun z => z = x)) (x = .p (.tuple #[]))) ∨ dStore P rt o σ d x
theorem stepD_dst {P : Program} {ops : Array Oper} {rt : Nat → SV} {o : Oper} {σ : St} {d : Nat} {x : SV} (h : stepD P ops rt o σ d x) : dstE o = some d := by
  rcases h with ⟨h1, h2, _⟩ | ⟨_, _, _, t, y, g, n, old, v, h1, _⟩
  · simp [dstE, h2, h1]
  · simp [dstE, stOf, h1]

theorem gOp_imp {ops : Array Oper} {o : Oper} {σ : St} {r s r' s' : Prop} (h : gOp ops o σ r s) (h1 : r → r') (h2 : s → s') : gOp ops o σ r' s' := by
  unfold gOp at h ⊢
  cases hg : o.guard with
  | none => rw [hg] at h; exact h1 h
  | some jw =>
    obtain ⟨j, want⟩ := jw
    rw [hg] at h
    obtain ⟨d, hd, h⟩ := h
    refine ⟨d, hd, ?_⟩
    split at h
    · split at h
      · rw [if_pos ‹_›]; exact h1 h
      · rw [if_neg ‹_›]; exact h2 h
    · exact ⟨h.1, h2 h.2⟩
    · exact h

theorem gOp_congr {ops : Array Oper} {o : Oper} {σ σ' : St} {r s : Prop} (hl : ∀ t ∈ o.looksAt ops, σ t = σ' t) (h : gOp ops o σ r s) : gOp ops o σ' r s := by
  unfold gOp at h ⊢
  cases hg : o.guard with
  | none => rw [hg] at h; exact h
  | some jw =>
    obtain ⟨j, want⟩ := jw
    rw [hg] at h
    obtain ⟨d, hd, h⟩ := h
    refine ⟨d, hd, ?_⟩
    rw [← hl d (by unfold Oper.looksAt; rw [hg]; simp [hd])]
    exact h

theorem evS_congr {σ σ' : St} {x : Operand} (h : ∀ t, x = .tmp t → σ t = σ' t) : evS σ x = evS σ' x := by
  cases x with
  | tmp t => simp only [evS]; rw [h t rfl]
  | _ => rfl

theorem looks_op {ops : Array Oper} {o : Oper} {σ σ' : St} (hl : ∀ t ∈ o.looksAt ops, σ t = σ' t) {x : Operand} (hx : x ∈ o.op.operands) : evS σ x = evS σ' x :=
  evS_congr fun t ht => hl t (by
    subst ht
    unfold Oper.looksAt
    refine List.mem_append_left _ (List.mem_filterMap.2 ⟨.tmp t, by simpa using hx, rfl⟩))

theorem rtL_congr {rt : Nat → SV} {ops : Array Oper} {o : Oper} {σ σ' : St} (hl : ∀ t ∈ o.looksAt ops, σ t = σ' t) : rtL rt o σ = rtL rt o σ' := funext fun r => by
  unfold rtL
  split
  · rfl
  · by_cases hx : o.op.operands.any (isTm r) = true
    · rw [if_pos hx, if_pos hx]
      obtain ⟨i, hi, h1⟩ := Array.any_eq_true.1 hx
      refine hl r ?_
      unfold Oper.looksAt
      refine List.mem_append_left _ (List.mem_filterMap.2 ⟨.tmp r, ?_, rfl⟩)
      cases ht : o.op.operands[i] with
      | tmp t =>
        rw [ht] at h1
        have : t = r := by simpa [isTm] using h1
        subst this
        rw [← ht]
        simp
      | _ => rw [ht] at h1; cases h1
    · rw [if_neg hx, if_neg hx]
theorem rtL_ok {rt : Nat → SV} {o : Oper} {σ : St} (hrt : ∀ r, rt r = σ r ∨ rt r = .u ∨ rt r = .tup []) : ∀ r, rtL rt o σ r = σ r ∨ rtL rt o σ r = .u := fun r => by
  unfold rtL
  split
  · exact .inr rfl
  · rename_i hno
    split
    · exact .inl rfl
    · rcases hrt r with h | h | h
      · exact .inl h
      · exact .inr h
      · exact absurd h (hno _)
theorem stepD_congr {ops : Array Oper} {rt : Nat → SV} {o : Oper} {σ σ' : St} {d : Nat} {x : SV} (h : stepD P ops rt o σ d x) (hl : ∀ t ∈ o.looksAt ops, σ t = σ' t) (hd : σ d = σ' d) : stepD P ops rt o σ' d x := by
  rcases h with ⟨h1, hst, h2, h3⟩ | ⟨h1, h2, h3, t, y, g, n, old, v, h4, h5, h6, h7, h8, h9, h10, h11, h12, h13⟩
  rotate_left
  · exact .inr ⟨h1, h2, h3, t, y, g, n, old, v, h4, h5, h6, by rw [← hd]; exact h7, h8, h9, by rw [← looks_op hl (x := y) (by rw [h4]; simp [Op.operands])]; exact h10, h11, h12, h13⟩
  refine .inl ⟨h1, hst, by rw [← hd]; exact h2, gOp_imp (gOp_congr hl h3) (fun h => ?_) id⟩
  cases hop : o.op with
  | assign y =>
    rw [hop] at h
    obtain ⟨v, h4, h5⟩ := h
    exact ⟨v, by rw [← looks_op hl (x := y) (by rw [hop]; simp [Op.operands])]; exact h4, h5⟩
  | _ =>
    rw [hop] at h
    rw [← rtL_congr hl]
    exact sOp_congr (fun x hx => looks_op hl hx) h

theorem gOp_or {ops : Array Oper} {o : Oper} {σ : St} {r s : Prop} (h : gOp ops o σ r s) : (r ∧ ∀ r' s' : Prop, r' → gOp ops o σ r' s') ∨ (s ∧ ∀ r' s' : Prop, s' → gOp ops o σ r' s') := by
  unfold gOp at h ⊢
  cases hg : o.guard with
  | none => rw [hg] at h; exact .inl ⟨h, fun _ _ h => h⟩
  | some jw =>
    obtain ⟨j, want⟩ := jw
    rw [hg] at h
    obtain ⟨d, hd, h⟩ := h
    split at h
    · rename_i b hσ
      by_cases hb : b = want
      · rw [if_pos hb] at h
        refine .inl ⟨h, fun r' s' h' => ⟨d, hd, ?_⟩⟩
        rw [hσ]
        simp only [hb, if_true]
        exact h'
      · rw [if_neg hb] at h
        refine .inr ⟨h, fun r' s' h' => ⟨d, hd, ?_⟩⟩
        rw [hσ]
        simp only [hb, if_false]
        exact h'
    · rename_i vs hσ
      refine .inr ⟨h.2, fun r' s' h' => ⟨d, hd, ?_⟩⟩
      rw [hσ]
      exact ⟨h.1, h'⟩
    · exact h.elim

theorem dOp_step {ops : Array Oper} {rt : Nat → SV} {o : Oper} {σ : St} {K : St → Prop} (h : gOp ops o σ (dOp P rt o σ K) (∃ d, o.dst = some d ∧ stOf o = none ∧ isRoot (σ d) = false ∧ K (upd σ d (.p (.tuple #[]))))) :
    ∃ d x, stepD P ops rt o σ d x ∧ K (upd σ d x) := by
  rcases gOp_or h with ⟨h1, h2⟩ | ⟨⟨d, h1, hst, h3, h4⟩, h2⟩
  · rcases h1 with ⟨d, hd, hst, hr, h1⟩ | ⟨d, y, hs, hk⟩
    rotate_left
    · exact ⟨d, y, .inr hs, hk⟩
    have dflt : sOp P (evS σ) (rtL rt o σ) o (fun x => K (upd σ d x)) → ∃ x, sOp P (evS σ) (rtL rt o σ) o (fun z => z = x) ∧ K (upd σ d x) := fun h => by
      obtain ⟨x, h3, h4⟩ := sOp_yield h
      exact ⟨x, h4 _ rfl, h3⟩
    cases hop : o.op with
    | assign y =>
      rw [hop] at h1
      obtain ⟨v, h3, h4⟩ := h1
      exact ⟨d, _, .inl ⟨hd, hst, hr, h2 _ _ (by rw [hop]; exact ⟨v, h3, rfl⟩)⟩, h4⟩
    | _ =>
      rw [hop] at h1
      obtain ⟨x, h3, h4⟩ := dflt h1
      exact ⟨d, x, .inl ⟨hd, hst, hr, h2 _ _ (by rw [hop]; exact h3)⟩, h4⟩
  · exact ⟨d, _, .inl ⟨h1, hst, h3, h2 _ _ rfl⟩, h4⟩

theorem stepD_sound {ops : Array Oper} {rt : Nat → SV} {o : Oper} {σ : St} {d : Nat} {x : SV} (h : stepD P ops rt o σ d x) (hd : d < N) {a : Act} {w : World} {L : Lab} (hR : Rel P N N w0 A I σ a w L) (hrt0 : ∀ r, rt r = σ r ∨ rt r = .u ∨ rt r = .tup [])
    (hnr : ∀ d, stOf o = some d → ∀ s q m, σ s ≠ .ref d q (some m)) {next : Act → World → Prop} {Q : Exit → Act → World → Prop} (hn : ∀ a' w' L', Rel P N N w0 A I (upd σ d x) a' w' L' → next a' w') :
    if Region.wanted o (yielded ops a.tmps) then o.wp P a w next Q ∨ (o.asks P a w ∧ LetsOut Q) else next (a.put o.dst undef) w := by
  rcases h with ⟨h1, _, h2, h3⟩ | hs
  rotate_left
  · obtain ⟨h1, h2, h3, t, y, g, n, old, v, h4, h5, h6, h7, h8, h9, h10, h11, h12, rfl⟩ := hs
    have hw : Region.wanted o (yielded ops a.tmps) = true := by unfold Region.wanted; rw [h1]
    rw [if_pos hw]
    refine .inl ?_
    have hcl : (cellsV v).length = n := by simp [cellsV, h12]
    have hra : (raws (cellsV v)).isSome = true := by
      have : ∀ l : List Value, (raws (l.map .raw)).isSome = true := by
        intro l
        induction l with
        | nil => rfl
        | cons x l ih =>
          simp only [List.map_cons, raws]
          cases hr : raws (l.map C.raw) with
          | none => rw [hr] at ih; simp at ih
          | some vs => rfl
      exact this _
    have hto : old.take n = old := List.take_of_length_le (by omega)
    refine store_ok (K := fun σ' => σ' = stScal σ d [(0, 0)] (cellsV v)) hR h4 ?_ fun w' σ' L' h13 h14 => ?_
    · refine ⟨h2, g, n, d, [(0, 0)], old, cellsV v, none, h5, h6, by rw [h7]; rfl, by simp [evS, h7], by rw [h7]; simp [rows1, getRow], by omega, by rw [h10]; simp [mvCells, h11], hcl, by simp, ?_⟩
      rw [hto, h9, hra]
      rfl
    · subst h13
      have e : stScal σ d [(0, 0)] (cellsV v) = upd σ d (.box (cellsV v)) := by
        funext s
        unfold stScal upd
        by_cases hsd : s = d
        · rw [if_pos hsd, if_pos hsd, h7]
          simp only [setCs]
          rw [setL_one]
          simp only [List.modify_zero_cons, List.take_zero, List.nil_append, List.headD_cons, Nat.zero_add]
          rw [List.drop_of_length_le (by omega), List.append_nil]
        · rw [if_neg hsd, if_neg hsd]
          have hst : stOf o = some d := by simp [stOf, h4]
          have := hnr d hst s
          cases hss : σ s with
          | ref r q m =>
            cases m with
            | none => rfl
            | some m =>
              simp only [killAgg]
              by_cases hrd : r = d
              · subst hrd; exact absurd hss (this q m)
              · rw [if_neg hrd]
          | _ => rfl
      rw [e] at h14
      exact hn _ _ L' h14
  have hput : ∀ y, put σ d y = upd σ d y := fun y => by unfold put; rw [if_neg (by rw [h2]; simp)]
  rcases gOp_ok hR h3 with ⟨h4, h5⟩ | ⟨h4, h5⟩
  · rw [if_pos h4]
    refine .inl ?_
    have hrt := rtL_ok (o := o) hrt0
    have dflt : sOp P (evS σ) (rtL rt o σ) o (fun z => z = x) → o.wp P a w next Q := fun h => sOp_sound hR hrt h fun v w' L1 sv h6 h7 h8 => by
      subst h6
      rw [h1]
      have := h7.put hd h8
      rw [hput] at this
      exact hn _ _ _ this
    cases hop : o.op with
    | assign y =>
      rw [hop] at h5
      obtain ⟨v, h6, rfl⟩ := h5
      refine wp_val (v := a.eval y) (w' := w) (by simp [execOp, hop]) ?_
      rw [h1]
      have := hR.up.put hd (sv := .p v) (tv := a.eval y) (evS_p hR h6)
      rw [hput] at this
      exact hn _ _ _ this
    | _ =>
      rw [hop] at h5
      exact dflt h5
  · rw [if_neg (by rw [h4]; simp)]
    subst h5
    rw [h1]
    have := hR.up.put hd (sv := .p (.tuple #[])) (tv := undef) rfl
    rw [hput] at this
    exact hn _ _ _ this
end Go.PV
