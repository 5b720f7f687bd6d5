/-
  A walk over pure values: contracts.
  Conditions: none.
-/
import Derived.Test.YtlajjggemadajaaPvZc
set_option linter.all false
namespace Go.PV
variable {P : Program} {N : Nat} {w0 : World} {A : Nat → Prop} {I : List Nat}

def notPtrA : Arg → Bool
  | .ptr _ => false
  | _ => true

theorem args_len : ∀ {I : List Nat} {vals : List Value} {args : List Arg} {w : World}, args.all notPtrA = true → ArgsRep A w I vals args → I = [] ∧ vals.length = args.length ∧
    ∀ (k : Nat) (x : Arg), args[k]? = some x → match x with | .v v => vals.getD k undef = v | .d g cs => FrzV A w g (vals.getD k undef) cs | .ptr _ => False
  | [], [], [], w, _, _ => ⟨rfl, rfl, by simp⟩
  | I, v :: vs, .v x :: as, w, h, hr => by
    have hr' : v = x ∧ ArgsRep A w I vs as := by cases I <;> exact hr
    obtain ⟨h1, h2⟩ := hr'
    obtain ⟨h3, h4, h5⟩ := args_len (by simpa [notPtrA] using h) h2
    refine ⟨h3, by simp [h4], fun k y hk => ?_⟩
    cases k with
    | zero => simp at hk; subst hk; exact h1
    | succ k => exact h5 k y (by simpa using hk)
  | I, v :: vs, .d g cs :: as, w, h, hr => by
    have hr' : FrzV A w g v cs ∧ ArgsRep A w I vs as := by cases I <;> exact hr
    obtain ⟨h1, h2⟩ := hr'
    obtain ⟨h3, h4, h5⟩ := args_len (by simpa [notPtrA] using h) h2
    refine ⟨h3, by simp [h4], fun k y hk => ?_⟩
    cases k with
    | zero => simp at hk; subst hk; exact h1
    | succ k => exact h5 k y (by simpa using hk)
  | I, v :: vs, .ptr cs :: as, w, h, hr => by simp [notPtrA] at h
  | [], [], x :: as, w, _, hr => by simp [ArgsRep] at hr
  | [], v :: vs, [], w, _, hr => by simp [ArgsRep] at hr
  | b :: I, [], [], w, _, hr => by simp [ArgsRep] at hr
  | b :: I, [], x :: as, w, _, hr => by simp [ArgsRep] at hr
  | b :: I, v :: vs, [], w, _, hr => by simp [ArgsRep] at hr

theorem outs_nil : ∀ (l : List (Nat × Arg)) (σ : St) {o : List (List C)}, (l.all fun x => notPtrA x.2) = true → outsOf σ l = some o → o = []
  | [], σ, o, _, h => by simp [outsOf] at h; exact h
  | (k, .v _) :: l, σ, o, h1, h => outs_nil l σ (by simpa [notPtrA] using h1) (by simpa [outsOf] using h)
  | (k, .d _ _) :: l, σ, o, h1, h => outs_nil l σ (by simpa [notPtrA] using h1) (by simpa [outsOf] using h)
  | (k, .ptr _) :: l, σ, o, h1, h => by simp [notPtrA] at h1

theorem ofL_zip : ∀ (xs : List SV) (k s : Nat), ofL ((List.range' k xs.length).zip xs) s = if k ≤ s then (xs[s - k]?).getD .u else .u
  | [], k, s => by simp [ofL]
  | x :: xs, k, s => by
    simp only [List.length_cons, List.range'_succ, List.zip_cons_cons, ofL, upd]
    by_cases h : s = k
    · subst h; simp
    · rw [if_neg h, ofL_zip xs (k + 1) s]
      by_cases h2 : k ≤ s
      · rw [if_pos (by omega), if_pos h2, show s - k = (s - (k + 1)) + 1 from by omega]
        simp
      · rw [if_neg (by omega), if_neg h2]

theorem st0_at (args : List Arg) (s : Nat) : st0 args s = ((args[s]?).map argSV).getD .u := by
  have := ofL_zip (args.map argSV) 0 s
  unfold st0
  rw [List.range_eq_range']
  simpa using this

/-- The state that a call begins with. -/
theorem start_rel {args : List Arg} {vals : Array Value} {w : World} (hA : ∀ b, A b → b < w.heap.size) (hp : args.all notPtrA = true) (hN : args.length ≤ N) (h : ArgsRep A w [] vals.toList args) :
    Rel P N N w A [] (st0 args) { tmps := vals ++ Array.replicate (N - vals.size) undef, defers := [] } w fun _ => none := by
  obtain ⟨_, h1, h2⟩ := args_len hp h
  have hsz : vals.size = args.length := by simpa using h1
  refine ⟨rfl, by simp; omega, ⟨rfl, rfl, rfl, Nat.le_refl _, fun _ _ _ => rfl⟩, by simp, by simp, fun s hs => ?_, fun b hb => ⟨hA b hb, by simp⟩, fun s => ?_⟩
  · rw [st0_at, List.getElem?_eq_none (by omega)]; rfl
  · rw [st0_at]
    cases hx : args[s]? with
    | none => exact trivial
    | some x =>
      have h3 := h2 s x hx
      have hlt : s < vals.size := by have := (List.getElem?_eq_some_iff.1 hx).1; omega
      have hv : (vals ++ Array.replicate (N - vals.size) undef).getD s undef = vals.toList.getD s undef := by
        simp [Array.getElem?_append, hlt]
      simp only [Option.map_some, Option.getD_some]
      rw [hv]
      cases x with
      | v y => exact h3
      | d g cs => exact FrzV.mono h3 fun b hb => ⟨⟨rfl, hA b hb, .inl hb⟩, rfl⟩
      | ptr cs => exact h3.elim

/-! ### what is handed back -/
def slotIx : List (RV × Nat) → Nat → Nat → Option Nat
  | [], _, _ => none
  | (r, s') :: l, i, s => if isOvR r = true ∧ s' = s then some i else slotIx l (i + 1) s
theorem slotIx_ge : ∀ (l : List (RV × Nat)) (i s k : Nat), slotIx l i s = some k → i ≤ k
  | [], _, _, _, h => by simp [slotIx] at h
  | (r, s') :: l, i, s, k, h => by
    simp only [slotIx] at h
    split at h
    · simp at h; omega
    · have := slotIx_ge l (i + 1) s k h; omega
theorem slotIx_inj : ∀ (l : List (RV × Nat)) (i s s2 k : Nat), slotIx l i s = some k → slotIx l i s2 = some k → s = s2
  | [], _, _, _, _, h, _ => by simp [slotIx] at h
  | (r, s') :: l, i, s, s2, k, h, h2 => by
    simp only [slotIx] at h h2
    split at h
    · simp at h
      split at h2
      · rename_i h3 h4; exact h3.2.symm.trans h4.2
      · have := slotIx_ge _ _ _ _ h2; omega
    · split at h2
      · simp at h2
        have := slotIx_ge _ _ _ _ h; omega
      · exact slotIx_inj l (i + 1) s s2 k h h2
theorem slotIx_at : ∀ (l : List (RV × Nat)) (i j : Nat) (r : RV) (s : Nat), ovOk l = true → l[j]? = some (r, s) → isOvR r = true → slotIx l i s = some (i + j)
  | [], _, _, _, _, _, h, _ => by simp at h
  | (r', s') :: l, i, 0, r, s, _, h, hr => by
    simp at h
    obtain ⟨rfl, rfl⟩ := h
    simp [slotIx, hr]
  | (r', s') :: l, i, j + 1, r, s, ho, h, hr => by
    simp only [ovOk, Bool.and_eq_true] at ho
    have hl : l[j]? = some (r, s) := by simpa using h
    simp only [slotIx]
    rw [if_neg, slotIx_at l (i + 1) j r s ho.2 hl hr]
    · congr 1; omega
    · rintro ⟨h1, rfl⟩
      have h2 := ho.1
      rw [h1] at h2
      simp only [Bool.not_true, Bool.false_or] at h2
      have := List.all_eq_true.1 h2 (r, s') (List.mem_of_getElem? hl)
      simp [hr] at this

/-- The labels of what is handed back. -/
def retLab (l : List (RV × Nat)) (L : Lab) : Lab := fun b => match L b with
  | some (s, (0, o) :: q) => (slotIx l 0 s).map fun i => (0, (i, o) :: q)
  | _ => none
theorem retLab_some {l : List (RV × Nat)} {L : Lab} {b : Nat} {x : Nat × Path} (h : retLab l L b = some x) : ∃ s o q i, L b = some (s, (0, o) :: q) ∧ slotIx l 0 s = some i ∧ x = (0, (i, o) :: q) := by
  unfold retLab at h
  split at h
  · rename_i s o q hL
    cases hi : slotIx l 0 s with
    | none => rw [hi] at h; simp at h
    | some i => rw [hi] at h; simp at h; exact ⟨s, o, q, i, hL, hi, h.symm⟩
  · cases h

theorem retV_ok {σ : St} {a : Act} {w : World} {L : Lab} (hR : Rel P N N w0 A I σ a w L) {rv : ResultVar} {r : RV} {s : Nat} (h : retV P σ rv = some (r, s)) {l : List (RV × Nat)} {j : Nat} (hl : isOvR r = true → slotIx l 0 s = some j) :
    ∃ v, (match rv with | .tmp t => (pure (a.tmps.getD t undef) : Sem Value) | .cell x t => do loadVar t (← asAddr (a.tmps.getD x undef))).run P w = .ok v w ∧
      RVat P (fun b => retLab l L b = none ∧ b < w.heap.size ∧ (A b ∨ w0.heap.size ≤ b)) (retLab l L) w 0 j v r := by
  have hz : ∀ b, Zof w0 A L w b → (retLab l L b = none ∧ b < w.heap.size ∧ (A b ∨ w0.heap.size ≤ b)) ∧ w.heap[b]? = w.heap[b]? := fun b h => ⟨⟨by simp [retLab, h.1], h.2⟩, rfl⟩
  have hlab : isOvR r = true → ∀ (b o : Nat) (q : Path), L b = some (s, (0, o) :: q) → retLab l L b = some (0, (j, o) :: q) ∧ w.heap[b]? = w.heap[b]? := fun hr b o q hb => ⟨by simp [retLab, hb, hl hr], rfl⟩
  cases rv with
  | tmp t =>
    refine ⟨a.tmps.getD t undef, rfl, ?_⟩
    have hs := hR.slot t
    simp only [retV] at h
    split at h
    · rename_i v hv
      rw [hv] at hs
      simp at h
      obtain ⟨rfl, rfl⟩ := h
      exact hs
    · rename_i g cs hv
      rw [hv] at hs
      simp at h
      obtain ⟨rfl, rfl⟩ := h
      exact FrzV.mono hs hz
    · rename_i g cs hv
      rw [hv] at hs
      simp at h
      obtain ⟨rfl, rfl⟩ := h
      exact RepV.keep hs hz fun b o q hb => hlab rfl b o q hb
    · rename_i r' n hv
      rw [hv] at hs
      split at h
      · rename_i g cs hr'
        by_cases hn : n = if g then some cs.length else none
        · rw [if_pos hn] at h
          have h := Option.some.inj h
          simp only [Prod.mk.injEq] at h
          obtain ⟨rfl, rfl⟩ := h
          have h1 := whole_ref hR (s := t) hs (.inl hr') hn
          rw [h1]
          have h2 := hR.slot r'
          rw [hr'] at h2
          exact RepV.keep h2 hz fun b o q hb => hlab rfl b o q hb
        · rw [if_neg hn] at h; cases h
      · cases h
    · cases h
  | cell t ty =>
    have hs := hR.slot t
    simp only [retV] at h
    split at h
    · rename_i cs g n hv ht
      rw [hv] at hs
      obtain ⟨b, hb, hL, arr, e, hh, hsz, hrep⟩ := hs
      split at h
      · rename_i hc
        have hcell : ∀ j, j < n → ∃ v, w.cell? ⟨b, 0 + j, none⟩ = some v := fun j hj => ⟨arr[j]'(by omega), by simp [World.cell?, hh, show j < arr.size by omega]⟩
        have hrun := run_loadVar ht hc.2 w b 0 hcell
        have hget : ∀ k, k < n → (cellsAt w b 0 n)[k]? = some (arr.getD k undef) := fun k hk => cellsAt_get hk (by simp [World.cell?, hh, show k < arr.size by omega])
        have hone : ∀ v ∈ cellsAt w b 0 n, v.oneCell' = true := fun v hv => by
          obtain ⟨k, hk⟩ := List.mem_iff_getElem?.1 hv
          have hkn : k < n := by have := (List.getElem?_eq_some_iff.1 hk).1; rwa [cellsAt_len] at this
          rw [hget k hkn] at hk
          have := (hrep k (cs[k]'(by omega)) (by simp [show k < cs.length by omega])).oneCell
          rw [Option.some.inj hk] at this
          exact this
        refine ⟨mkV g (cellsAt w b 0 n), ?_, ?_⟩
        · have : a.tmps.getD t undef = .pointer (some ⟨b, 0, none⟩) := hb
          show Sem.run P (do loadVar ty (← asAddr (a.tmps.getD t undef))) w = _
          rw [this]
          simp [asAddr, hrun]
        · split at h
          · rename_i vs hvs
            simp at h
            obtain ⟨rfl, rfl⟩ := h
            show mkV g (cellsAt w b 0 n) = mkV g vs
            congr 1
            have := raws_get hvs
            subst this
            have hln : vs.length = n := by have := hc.1; simpa using this
            apply List.ext_getElem?
            intro k
            by_cases hk : k < n
            · rw [hget k hk, (hrep k (.raw (vs[k]'(by omega))) (by simp [show k < vs.length by omega])).raw_eq]
              simp [show k < vs.length by omega]
            · rw [List.getElem?_eq_none (by rw [cellsAt_len]; omega), List.getElem?_eq_none (by omega)]
          · simp at h
            obtain ⟨rfl, rfl⟩ := h
            have h1 := mkV_shape (g := g) hone (fun h => by rw [cellsAt_len]; exact hc.2 h)
            rw [cellsAt_len] at h1
            refine ⟨by rw [hc.1]; exact h1.1, fun k c hk => ?_⟩
            have hkn : k < n := by have := (List.getElem?_eq_some_iff.1 hk).1; omega
            have h2 : (mkV g (cellsAt w b 0 n)).cells.getD k undef = arr.getD k undef := by
              rw [getD_mkV hone fun h => by rw [cellsAt_len]; exact hc.2 h, hget k hkn]; rfl
            rw [h2]
            exact (hrep k c hk).move [(j, k)] hz fun b q hb => hlab rfl b k q hb
      · cases h
    · cases h
end Go.PV
