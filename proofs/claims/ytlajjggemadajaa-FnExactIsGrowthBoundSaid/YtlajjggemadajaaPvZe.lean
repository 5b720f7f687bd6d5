/-
  A walk over pure values: a contract from a walk.
  Conditions: none.
-/
import Derived.Test.YtlajjggemadajaaPvZd
set_option linter.all false
namespace Go.PV
variable {P : Program} {N : Nat} {w0 : World} {A : Nat → Prop} {I : List Nat}

def retM (tmps : Array Value) : ResultVar → Sem Value
  | .tmp t => pure (tmps.getD t undef)
  | .cell x t => do loadVar t (← asAddr (tmps.getD x undef))

theorem results_eq (fn : Func) (tmps : Array Value) {P : Program} {w : World} {vs : List Value} (h : (fn.results.toList.mapM (retM tmps)).run P w = .ok vs w) :
    (results fn tmps).run P w = .ok (if vs.length = 1 then vs.headD undef else .tuple vs.toArray) w := by
  have e : fn.results.mapM (retM tmps) = (do let l ← fn.results.toList.mapM (retM tmps); pure l.toArray) := by
    rw [Array.mapM_eq_mapM_toList]; simp
  have : results fn tmps = (do let vs ← fn.results.mapM (retM tmps); pure (if h : vs.size = 1 then vs[0] else .tuple vs)) := rfl
  rw [this, e]
  simp only [bind_assoc, pure_bind, Sem.run_bind, h, Result.andThen_ok]
  by_cases h1 : vs.length = 1
  · match vs, h1 with
    | [v], _ => simp
  · simp [h1]

theorem retVs_ok {σ : St} {a : Act} {w : World} {L : Lab} (hR : Rel P N N w0 A I σ a w L) {l0 : List (RV × Nat)} : ∀ (rs : List ResultVar) (l : List (RV × Nat)) (i : Nat), retVs P σ rs = some l →
    (∀ j r s, l[j]? = some (r, s) → isOvR r = true → slotIx l0 0 s = some (i + j)) →
    ∃ vs : List Value, (rs.mapM (retM a.tmps)).run P w = .ok vs w ∧ vs.length = l.length ∧ ∀ j r s, l[j]? = some (r, s) →
      RVat P (fun b => retLab l0 L b = none ∧ b < w.heap.size ∧ (A b ∨ w0.heap.size ≤ b)) (retLab l0 L) w 0 (i + j) (vs.getD j undef) r
  | [], l, i, h, _ => by
    simp [retVs] at h
    subst h
    exact ⟨[], by simp, rfl, by simp⟩
  | rv :: rs, l, i, h, hl => by
    simp only [retVs] at h
    split at h
    · rename_i x xs hx hxs
      simp at h
      subst h
      obtain ⟨r, s⟩ := x
      obtain ⟨v, h1, h2⟩ := retV_ok hR hx (l := l0) (j := i) fun hr => by simpa using hl 0 r s rfl hr
      obtain ⟨vs, h3, h4, h5⟩ := retVs_ok hR rs xs (i + 1) hxs fun j r s hj hr => by
        have := hl (j + 1) r s (by simpa using hj) hr
        rw [this]; congr 1; omega
      refine ⟨v :: vs, ?_, by simp [h4], fun j r' s' hj => ?_⟩
      · have h1' : (retM a.tmps rv).run P w = .ok v w := h1
        simp [List.mapM_cons, Sem.run_bind, h1', h3]
      · cases j with
        | zero =>
          simp at hj
          obtain ⟨rfl, rfl⟩ := hj
          simpa using h2
        | succ j =>
          have := h5 j r' s' (by simpa using hj)
          rw [show i + (j + 1) = i + 1 + j from by omega]
          simpa using this
    · cases h

/-- **A contract from a walk.** -/
theorem Meets_of {f : FuncId} {fn : Func} {c : Code} {args : List Arg} {res : Res} (hc : callable P f = true) (hf : P.funcs[f]? = some fn) (hb : fn.body = some c)
    (hN : (decide (args.length ≤ fn.ntmps) && codeB fn.ntmps c && args.all notPtrA) = true) (h : pvC P fn.ntmps c (st0 args) (endQ P fn args res)) : Meets P f args res := by
  simp only [Bool.and_eq_true, decide_eq_true_eq] at hN
  refine ⟨hc, fun w A I vals h1 h2 h3 h4 => ?_⟩
  obtain ⟨rfl, hlen, _⟩ := args_len hN.2 h4
  refine calls_of_wp hf hb ?_
  have hR := start_rel (P := P) (N := fn.ntmps) (fun b hb => (h1 b hb).1) hN.2 hN.1.1 h4
  refine wp_mono (Ok_of_pvC c _ _ h hN.1.2 w A _ w _ hR) fun e a' w' hl => ?_
  have key : ∀ σ L, Rel P fn.ntmps fn.ntmps w A [] σ a' w' L → ((∃ l, retVs P σ fn.results.toList = some l ∧ ovOk l = true ∧ l.map (·.1) = res.vals) ∧ outsOf σ ((List.range args.length).zip args) = some res.outs) →
      a'.defers = [] ∧ ∃ v, (results fn a'.tmps).run P w' = .ok v w' ∧ ∃ v' L', Ending.returned v = .returned v' ∧ Post P A w [] w' L' v' res := fun σ L hR' ⟨⟨l, h5, h6, h7⟩, h8⟩ => by
    obtain ⟨vs, h9, h10, h11⟩ := retVs_ok hR' (l0 := l) fn.results.toList l 0 h5 fun j r s hj hr => by
      have := slotIx_at l 0 j r s h6 hj hr
      exact this
    refine ⟨hR'.dfr, _, results_eq fn a'.tmps h9, _, retLab l L, rfl, hR'.ev, ?_, ?_, ?_, ?_, ?_⟩
    · intro b b' x hx hx'
      obtain ⟨s, o, q, i, e1, e2, rfl⟩ := retLab_some hx
      obtain ⟨s', o', q', i', e3, e4, e5⟩ := retLab_some hx'
      simp at e5
      obtain ⟨⟨rfl, rfl⟩, rfl⟩ := e5
      have := slotIx_inj l 0 s s' i e2 e4
      subst this
      exact hR'.inj b b' _ e1 e3
    · intro b x hx
      obtain ⟨s, o, q, i, e1, e2, rfl⟩ := retLab_some hx
      have := hR'.lab b _ e1
      refine ⟨this.1, ?_⟩
      rcases this.2.1 with h | h
      · exact .inl h
      · simp at h
    · have hrv : ∀ j r, res.vals[j]? = some r → RVat P (fun b => retLab l L b = none ∧ b < w'.heap.size ∧ (A b ∨ w.heap.size ≤ b)) (retLab l L) w' 0 j (vs.getD j undef) r := fun j r hj => by
        rw [← h7, List.getElem?_map] at hj
        cases hx : l[j]? with
        | none => rw [hx] at hj; cases hj
        | some x =>
          rw [hx] at hj
          simp at hj
          subst hj
          have := h11 j x.1 x.2 hx
          simpa using this
      have hlen' : res.vals.length = vs.length := by rw [← h7, h10]; simp
      match hv : res.vals with
      | [r] =>
        rw [hv] at hrv hlen'
        rw [if_pos (by simpa using hlen'.symm)]
        have := hrv 0 r rfl
        match vs, hlen' with
        | [v], _ => exact this
      | [] =>
        rw [hv] at hlen'
        rw [if_neg (by simp at hlen'; omega)]
        exact ⟨vs.toArray, rfl, by simpa using hlen'.symm, by simp⟩
      | r1 :: r2 :: rest =>
        rw [hv] at hrv hlen'
        rw [if_neg (by simp at hlen'; omega)]
        exact ⟨vs.toArray, rfl, by simpa using hlen'.symm, fun j r hj => by have := hrv j r hj; simpa using this⟩
    · have : res.outs = [] := outs_nil _ _ (by
        rw [List.all_eq_true]
        intro x hx
        have := (List.of_mem_zip hx).2
        exact List.all_eq_true.1 hN.2 _ this) h8
      rw [this]; rfl
    · intro k b cs hk; simp at hk
  cases e with
  | normal =>
    obtain ⟨σ, L, h5, h6⟩ := hl
    exact key σ L h5 h6
  | ret =>
    obtain ⟨σ, L, h5, h6⟩ := hl
    exact key σ L h5 h6
  | exit id =>
    obtain ⟨σ, L, h5, h6⟩ := hl
    exact h6.elim
  | _ => exact hl.elim
end Go.PV
