/-
  A walk over pure values: stores are sound.
  Conditions: none.
-/
import Derived.Test.YtlajjggemadajaaPvR
set_option linter.all false
namespace Go.PV
variable {P : Program} {N : Nat} {w0 : World} {A : Nat → Prop} {I : List Nat}

/-- A value on its way into memory. -/
theorem mv_ok {σ : St} {a : Act} {w : World} {L : Lab} (hR : Rel P N N w0 A I σ a w L) {s : Nat} {tv : Value} {sv : SV} {cs : List C} {mv : Option Nat} (h : RelS P (Zof w0 A L w) L w (tmOf a) σ s tv sv) (hm : mvCells σ sv = some (cs, mv)) :
    tv.cells.size = cs.length ∧ (mv = none ∧ (∀ (j : Nat) (c : C), cs[j]? = some c → Frz (Zof w0 A L w) w (tv.cells.getD j undef) c) ∨
      ∃ r g, mv = some r ∧ (σ r = .ov g cs ∨ σ r = .box cs) ∧ True ∧ ∀ (j : Nat) (c : C), cs[j]? = some c → Rep P (Zof w0 A L w) L w r [(0, j)] (tv.cells.getD j undef) c) := by
  have shape : ∀ {g : Bool} {v : Value} {n : Nat}, VShape g v n → v.cells.size = n := by
    intro g v n hv
    unfold VShape at hv
    split at hv
    · obtain ⟨arr, rfl, h⟩ := hv; exact h
    · rw [hv.1, hv.2]; rfl
  cases sv with
  | p v =>
    have h : tv = v := h
    subst h
    simp only [mvCells] at hm
    split at hm
    · rename_i hs
      simp at hm
      obtain ⟨rfl, rfl⟩ := hm
      have := cellsF_ok (P := P) (Z := Zof w0 A L w) (L := L) (w := w) (tm := tmOf a) (σ := σ) (s := s) (tv := tv) (sv := .p tv) (g := aggB tv) (cs := cellsV tv) rfl (by simp only [sOp.cellsF, if_pos hs])
      exact ⟨this.1.1, .inl ⟨rfl, this.1.2⟩⟩
    · cases hm
  | d g cs' =>
    simp [mvCells] at hm
    obtain ⟨rfl, rfl⟩ := hm
    exact ⟨shape h.1, .inl ⟨rfl, h.2⟩⟩
  | ref r q n =>
    have hq : q = [(0, 0)] := by
      rcases q with _ | ⟨⟨i, o⟩, _ | ⟨y, q⟩⟩
      · simp [mvCells] at hm
      · cases i <;> cases o <;> simp [mvCells] at hm
        rfl
      · simp [mvCells] at hm
    subst hq
    simp only [mvCells] at hm
    have hv : ∀ {g : Bool} {cs0 : List C}, isBox (σ r) = false → VShape g (tmOf a r) cs0.length → n = (if g then some cs0.length else none) → tv = tmOf a r := by
      intro g cs0 hb hs hn
      obtain ⟨_, h⟩ := h
      rcases h with ⟨_, _, h3⟩ | ⟨q0, i, o, b, arr, e, hq, hbx, _⟩
      · subst hn
        cases g with
        | true => exact h3.1
        | false =>
          simp only [Bool.false_eq_true, if_false] at h3 hs
          unfold VShape at hs
          simp only [Bool.false_eq_true, if_false] at hs
          rw [h3]
          show (tmOf a r).cells.getD 0 undef = _
          rw [hs.1]
          rfl
      · have hq0 : q0 = [] := by
          have := congrArg List.length hq
          simp at this
          exact this
        rw [hbx hq0] at hb
        cases hb
    have hslot := hR.slot r
    split at hm
    · rename_i g cs0 hs
      rw [hs] at hslot
      by_cases hn : n = (if g = true then some cs0.length else none)
      · rw [if_pos hn] at hm
        simp only [Option.some.injEq, Prod.mk.injEq] at hm
        obtain ⟨rfl, rfl⟩ := hm
        have := hv (by rw [hs]; rfl) hslot.1 hn
        subst this
        exact ⟨shape hslot.1, .inr ⟨r, g, rfl, .inl hs, trivial, hslot.2⟩⟩
      · rw [if_neg hn] at hm; cases hm
    · rename_i g cs0 hs
      rw [hs] at hslot
      by_cases hn : n = (if g = true then some cs0.length else none)
      · rw [if_pos hn] at hm
        simp only [Option.some.injEq, Prod.mk.injEq] at hm
        obtain ⟨rfl, rfl⟩ := hm
        have := hv (by rw [hs]; rfl) hslot.1 hn
        subst this
        exact ⟨shape hslot.1, .inl ⟨rfl, hslot.2⟩⟩
      · rw [if_neg hn] at hm; cases hm
    · rename_i cs0 hs
      rw [hs] at hslot
      split at hm
      · rename_i hn
        simp only [Option.some.injEq, Prod.mk.injEq] at hm
        obtain ⟨rfl, rfl⟩ := hm
        obtain ⟨b, _, hlb, arr, e, hheap, hsz, hrep⟩ := hslot
        obtain ⟨_, h⟩ := h
        rcases h with ⟨hb, _⟩ | ⟨q0, i, o, b', arr', e', hq, _, hlb', hheap', hval⟩
        · rw [hs] at hb; cases hb
        · have hq0 : q0 = [] ∧ i = 0 ∧ o = 0 := by
            rcases q0 with _ | ⟨y, q0⟩
            · simp at hq; exact ⟨rfl, hq.1.symm, hq.2.symm⟩
            · have := congrArg List.length hq; simp at this
          obtain ⟨rfl, rfl, rfl⟩ := hq0
          obtain rfl := hR.inj _ _ _ hlb hlb'
          rw [hheap] at hheap'
          simp only [Option.some.injEq, Obj.cells.injEq] at hheap'
          obtain ⟨rfl, rfl, _⟩ := hheap'
          have hcell : tv.cells.size = cs0.length ∧ ∀ j, j < cs0.length → tv.cells.getD j undef = arr.getD j undef := by
            rcases hn with rfl | ⟨rfl, h1⟩
            · simp only [Nat.zero_mul, Nat.zero_add] at hval
              subst hval
              refine ⟨by simp [Value.cells]; omega, fun j hj => ?_⟩
              simp only [Value.cells, Array.getD_eq_getD_getElem?]
              rw [Array.getElem?_extract_of_lt (by omega)]
              simp [show j < arr.size by omega]
            · simp only [Nat.zero_mul, Nat.zero_add] at hval
              have h2 := (hrep 0 cs0[0] (by simp [h1])).oneCell
              have h3 : arr.getD 0 undef = tv := by rw [Array.getD_eq_getD_getElem?, hval.1]; rfl
              rw [h3] at h2
              rw [oneCell_cells h2]
              refine ⟨by simp [h1], fun j hj => ?_⟩
              have : j = 0 := by omega
              subst this
              rw [h3]; rfl
          refine ⟨hcell.1, .inr ⟨r, true, rfl, .inr hs, trivial, fun j c hj => ?_⟩⟩
          rw [hcell.2 j (List.getElem?_eq_some_iff.1 hj).1]
          exact hrep j c hj
      · cases hm
    · cases hm
  | _ => simp [mvCells] at hm

theorem run_storeAt {t : TypeId} {g : Bool} {n : Nat} (ht : tyC P t = some (g, n)) {w : World} {b off : Nat} {arr : Array Value} {e : TypeId} (hb : w.heap[b]? = some (.cells arr e (0, 0))) {v : Value} (hv : v.cells.size = n) (h1 : ∀ x ∈ v.cells.toList, x.oneCell' = true)
    (hle : off + n ≤ arr.size) : (Instr.storeAt t (.pointer (some ⟨b, off, none⟩)) v).run P w = .ok () (w.setRow b (arr.toList.take off ++ v.cells.toList ++ arr.toList.drop (off + n)).toArray) := by
  obtain ⟨d, i, hu, hi, hs, _⟩ := tyC_spec ht
  have := run_storeCells_at (P := P) b off e v.cells.toList 0 arr w hb (by simp; omega) h1
  simp only [Nat.add_zero, Array.length_toList, hv] at this
  simp [Instr.storeAt, Instr.sureAddr, storeVar, sizeOf, typeInfo, hi, hs, hv, this]

theorem splice_arr {arr : Array Value} {vs : Array Value} {off : Nat} (hle : off + vs.size ≤ arr.size) : (arr.toList.take off ++ vs.toList ++ arr.toList.drop (off + vs.size)).toArray.size = arr.size ∧
    ∀ k, (arr.toList.take off ++ vs.toList ++ arr.toList.drop (off + vs.size)).toArray.getD k undef = if off ≤ k ∧ k < off + vs.size then vs.getD (k - off) undef else arr.getD k undef := by
  refine ⟨by simp; omega, fun k => ?_⟩
  simp only [Array.getD_eq_getD_getElem?, List.getElem?_toArray]
  by_cases h1 : k < off
  · rw [if_neg (by omega), List.append_assoc, List.getElem?_append_left (by simp; omega), List.getElem?_take, if_pos h1]
    simp
  · by_cases h2 : k < off + vs.size
    · rw [if_pos (by omega), List.getElem?_append_left (by simp; omega), List.getElem?_append_right (by simp; omega)]
      simp only [List.length_take, Array.length_toList]
      rw [show min off arr.size = off from by omega]
      simp
    · rw [if_neg (by omega), List.getElem?_append_right (by simp; omega)]
      simp only [List.length_append, List.length_take, Array.length_toList, List.getElem?_drop]
      rw [show off + vs.size + (k - (min off arr.size + vs.size)) = k from by omega]
      simp

open Classical in
/-- Labels behind a store: what lay under the place is gone, what came from mv lies there. -/
noncomputable def stLab (L : Lab) (r : Nat) (q0 : Path) (i o n : Nat) (mv : Option Nat) : Lab := fun b => match L b with
  | none => none
  | some (s, q) => if mv = some s then (match q with
      | (0, j) :: q' => if j < n then some (r, q0 ++ (i, o + j) :: q') else none
      | _ => none)
    else if s = r ∧ under q0 i o n q then none else some (s, q)

theorem stLab_some {L : Lab} {r : Nat} {q0 : Path} {i o n : Nat} {mv : Option Nat} {b : Nat} {l : Nat × Path} (h : stLab L r q0 i o n mv b = some l) :
    (∃ s j q', mv = some s ∧ L b = some (s, (0, j) :: q') ∧ j < n ∧ l = (r, q0 ++ (i, o + j) :: q')) ∨ (L b = some l ∧ mv ≠ some l.1 ∧ ¬ (l.1 = r ∧ under q0 i o n l.2)) := by
  unfold stLab at h
  split at h
  · cases h
  · rename_i s q hb
    split at h
    · rename_i hm
      split at h
      · rename_i j q'
        split at h
        · rename_i hj
          exact .inl ⟨s, j, q', hm, hb, hj, (Option.some.inj h).symm⟩
        · cases h
      · cases h
    · rename_i hm
      split at h
      · cases h
      · rename_i hu
        obtain rfl := Option.some.inj h
        exact .inr ⟨hb, hm, hu⟩

theorem stLab_keep {L : Lab} {r : Nat} {q0 : Path} {i o n : Nat} {mv : Option Nat} {b s : Nat} {q : Path} (h : L b = some (s, q)) (hm : mv ≠ some s) (hu : ¬ (s = r ∧ under q0 i o n q)) : stLab L r q0 i o n mv b = some (s, q) := by
  simp only [stLab, h, if_neg hm, if_neg hu]

theorem stLab_inj {L : Lab} {r : Nat} {q0 : Path} {i o n : Nat} {mv : Option Nat} (hi : ∀ b b' l, L b = some l → L b' = some l → b = b') :
    ∀ b b' l, stLab L r q0 i o n mv b = some l → stLab L r q0 i o n mv b' = some l → b = b' := by
  intro b b' l h1 h2
  rcases stLab_some h1 with ⟨s, j, q', m1, e1, j1, rfl⟩ | ⟨e1, m1, u1⟩ <;> rcases stLab_some h2 with ⟨s2, j2, q2, m2, e2, jj2, l2⟩ | ⟨e2, m2, u2⟩
  · simp at l2
    obtain ⟨rfl, rfl⟩ := l2
    rw [m1] at m2
    obtain rfl := Option.some.inj m2
    exact hi _ _ _ e1 e2
  · exact absurd ⟨rfl, j, q', j1, rfl⟩ u2
  · subst l2
    exact absurd ⟨rfl, j2, q2, jj2, rfl⟩ u1
  · exact hi _ _ _ e1 e2
end Go.PV
