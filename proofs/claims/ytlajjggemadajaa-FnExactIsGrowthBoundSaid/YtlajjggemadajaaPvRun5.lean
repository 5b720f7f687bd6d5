/-
  A walk over pure values: a contract from rules.
  Conditions: none.
-/
import Derived.Test.YtlajjggemadajaaPvRun4
set_option linter.all false
namespace Go.PV
variable {P : Program} {N : Nat} {w0 : World} {A : Nat → Prop} {I : List Nat}

/-- **A contract from a walk.** -/
theorem Meets_ofL {f : FuncId} {fn : Func} {c : Code} {args : List Arg} {res : Res} (hc : callable P f = true) (hf : P.funcs[f]? = some fn) (hb : fn.body = some c)
    (hN : (decide (args.length ≤ fn.ntmps) && codeB fn.ntmps c && args.all notPtrA) = true) {l0 : LS} (hl0 : (List.range args.length).zip (args.map argSV) = l0) (h : OkL P fn.ntmps c l0 (endL P fn args res)) : Meets P f args res := by
  simp only [Bool.and_eq_true, decide_eq_true_eq] at hN
  refine ⟨hc, fun w A I vals h1 h2 h3 h4 => ?_⟩
  obtain ⟨rfl, hlen, _⟩ := args_len hN.2 h4
  refine calls_of_wp hf hb ?_
  have hR := start_rel (P := P) (N := fn.ntmps) (fun b hb => (h1 b hb).1) hN.2 hN.1.1 h4
  refine wp_mono (h hN.1.2 w A _ w _ (by subst hl0; exact hR)) fun e a' w' hl => ?_
  have key : ∀ σ L, Rel P fn.ntmps fn.ntmps w A [] σ a' w' L → ((∃ l, retVs P σ fn.results.toList = some l ∧ ovOk l = true ∧ l.map (·.1) = res.vals) ∧ outsOf σ ((List.range args.length).zip args) = some res.outs) →
      a'.defers = [] ∧ ∃ v, (results fn a'.tmps).run P w' = .ok v w' ∧ ∃ v' L', Ending.returned v = .returned v' ∧ Post P A w [] w' L' v' res := fun σ L hR' ⟨⟨l, h5, h6, h7⟩, h8⟩ => by
    obtain ⟨vs, h9, h10, h11⟩ := retVs_ok hR' (l0 := l) fn.results.toList l 0 h5 fun j r s hj hr => by
      have := slotIx_at l 0 j r s h6 hj hr
      exact this
    refine ⟨hR'.dfr, _, results_eq fn a'.tmps h9, _, retLab l L, rfl, hR'.ev, ?_, ?_, ?_, ?_, ?_⟩
    · intro b b' x hx hx'
      obtain ⟨s, o, q, i, e1, e2, rfl⟩ := retLab_some hx
      obtain ⟨s', o', q', i', e3, e4, e5⟩ := retLab_some hx'
      simp at e5
      obtain ⟨⟨rfl, rfl⟩, rfl⟩ := e5
      have := slotIx_inj l 0 s s' i e2 e4
      subst this
      exact hR'.inj b b' _ e1 e3
    · intro b x hx
      obtain ⟨s, o, q, i, e1, e2, rfl⟩ := retLab_some hx
      have := hR'.lab b _ e1
      refine ⟨this.1, ?_⟩
      rcases this.2.1 with h | h
      · exact .inl h
      · simp at h
    · have hrv : ∀ j r, res.vals[j]? = some r → RVat P (fun b => retLab l L b = none ∧ b < w'.heap.size ∧ (A b ∨ w.heap.size ≤ b)) (retLab l L) w' 0 j (vs.getD j undef) r := fun j r hj => by
        rw [← h7, List.getElem?_map] at hj
        cases hx : l[j]? with
        | none => rw [hx] at hj; cases hj
        | some x =>
          rw [hx] at hj
          simp at hj
          subst hj
          have := h11 j x.1 x.2 hx
          simpa using this
      have hlen' : res.vals.length = vs.length := by rw [← h7, h10]; simp
      match hv : res.vals with
      | [r] =>
        rw [hv] at hrv hlen'
        rw [if_pos (by simpa using hlen'.symm)]
        have := hrv 0 r rfl
        match vs, hlen' with
        | [v], _ => exact this
      | [] =>
        rw [hv] at hlen'
        rw [if_neg (by simp at hlen'; omega)]
        exact ⟨vs.toArray, rfl, by simpa using hlen'.symm, by simp⟩
      | r1 :: r2 :: rest =>
        rw [hv] at hrv hlen'
        rw [if_neg (by simp at hlen'; omega)]
        exact ⟨vs.toArray, rfl, by simpa using hlen'.symm, fun j r hj => by have := hrv j r hj; simpa using this⟩
    · have : res.outs = [] := outs_nil _ _ (by
        rw [List.all_eq_true]
        intro x hx
        have := (List.of_mem_zip hx).2
        exact List.all_eq_true.1 hN.2 _ this) h8
      rw [this]; rfl
    · intro k b cs hk; simp at hk
  cases e with
  | normal =>
    obtain ⟨σ, L, h5, l', h6, h7⟩ := hl
    obtain ⟨ls, g1, g2, g3, g4⟩ := h7
    exact key (ofL l') L (by
      rcases h6 with rfl | h6
      · exact h5
      · exact agree_rel h5 h6) ⟨⟨ls, g1, g2, g3⟩, g4⟩
  | ret =>
    obtain ⟨σ, L, h5, l', h6, h7⟩ := hl
    obtain ⟨ls, g1, g2, g3, g4⟩ := h7
    exact key (ofL l') L (by
      rcases h6 with rfl | h6
      · exact h5
      · exact agree_rel h5 h6) ⟨⟨ls, g1, g2, g3⟩, g4⟩
  | exit id =>
    obtain ⟨σ, L, h5, l', h6, h7⟩ := hl
    exact h7.elim
  | _ => exact hl.elim

theorem e_ret {fn : Func} {args : List Arg} {vals : List RV} {l : LS} {ls : List (RV × Nat)} (h1 : retVs P (ofL l) fn.results.toList = some ls) (h2 : ovOk ls = true) (h3 : ls.map (·.1) = vals) (h4 : outsOf (ofL l) ((List.range args.length).zip args) = some []) : endL P fn args { vals := vals } .ret l := ⟨ls, h1, h2, h3, h4⟩
theorem e_end {fn : Func} {args : List Arg} {vals : List RV} {l : LS} {ls : List (RV × Nat)} (h1 : retVs P (ofL l) fn.results.toList = some ls) (h2 : ovOk ls = true) (h3 : ls.map (·.1) = vals) (h4 : outsOf (ofL l) ((List.range args.length).zip args) = some []) : endL P fn args { vals := vals } .normal l := ⟨ls, h1, h2, h3, h4⟩

/-! ### small steps in the plain text -/
theorem ite_t {α : Type} {b : Bool} {x y : Option α} {r : α} (hb : b = true) (h : (if b = true then x else y) = some r) : x = some r := by rwa [if_pos hb] at h
theorem ite_f {α : Type} {b : Bool} {x y : Option α} {r : α} (hb : b = false) (h : (if b = true then x else y) = some r) : y = some r := by rwa [if_neg (by simp [hb])] at h
theorem bind_some' {α β : Type} {x : Option α} {f : α → Option β} {r : β} (h : x.bind f = some r) : ∃ a, x = some a ∧ f a = some r := Option.bind_eq_some_iff.1 h
/-- An element by a number that may be too great. -/
def idxO {α : Type} (xs : List α) (i : Int) : Option α := if 0 ≤ i then xs[i.toNat]? else none
theorem idxO_some {α : Type} {xs : List α} {i : Int} {x : α} (h : idxO xs i = some x) : 0 ≤ i ∧ xs[i.toNat]? = some x := by
  unfold idxO at h
  split at h
  · exact ⟨by assumption, h⟩
  · cases h
theorem map_get {α β : Type} {xs : List α} {n : Nat} {x : α} (f : α → β) (h : xs[n]? = some x) : (xs.map f)[n]? = some (f x) := by simp [h]
theorem getRow_deep {e : TypeId} {rows : List (List C)} {n o : Nat} {q : Path} : getRow [[.sl (some e) rows]] ((0, 0) :: (n, o) :: q) = getRow rows ((n, o) :: q) := by
  cases q <;> simp [getRow]
theorem gr1 {α : Type} {xs : List α} {n : Nat} {x : α} {e : TypeId} {enc : α → List C} (h : xs[n]? = some x) : getRow [[.sl (some e) (xs.map enc)]] [(0, 0), (n, 0)] = some (enc x) := by
  rw [getRow_deep]; simp [getRow, h]
theorem gr2 {α β : Type} {xs : List (List β)} {n m : Nat} {x : List β} {y : β} {e e' : TypeId} {enc : β → List C} (h : xs[n]? = some x) (h2 : x[m]? = some y) : getRow [[.sl (some e) (xs.map fun l => [.sl (some e') (l.map enc)])]] [(0, 0), (n, 0), (m, 0)] = some (enc y) := by
  rw [getRow_deep]; simp [getRow, h, h2]
/-! ### how values are laid out -/
def eI (n : Int) : List C := [.raw (.int .i64 n)]
def eU (k : IntKind) (n : Int) : List C := [.raw (.int k n)]
def eB (b : Bool) : List C := [.raw (.bool b)]
def eT (s : ByteArray) : List C := [.raw (.string s)]
def eP {α β : Type} (f : α → List C) (g : β → List C) (x : α × β) : List C := f x.1 ++ g x.2
def eF {α : Type} (f : α → List C) (l : List α) : List C := [.sl none (l.map f)]
def eO {α : Type} (t : TypeId) (f : α → List C) (l : List α) : List C := [.sl (some t) (l.map f)]
end Go.PV
