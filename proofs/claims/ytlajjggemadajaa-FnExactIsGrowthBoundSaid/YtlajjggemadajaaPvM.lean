/-
  A walk over pure values: literals of slices; calls.
  Conditions: none.
-/
import Derived.Test.YtlajjggemadajaaPvL
set_option linter.all false
namespace Go.PV
variable {P : Program} {N : Nat} {w0 : World} {A : Nat → Prop} {I : List Nat}

/-- The first k elements lie in the cells. -/
def RowsIn (Z : Nat → Prop) (w : World) (sz k : Nat) (arr : Array Value) (rows : List (List C)) : Prop :=
  ∀ (i : Nat) (row : List C) (o : Nat) (c : C), i < k → rows[i]? = some row → row[o]? = some c → Frz Z w (arr.getD (i * sz + o) undef) c

theorem partsOf_ok {σ : St} {a : Act} {w : World} {L : Lab} (hR : Rel P N N w0 A I σ a w L) {sz n : Nat} : ∀ (l : List (Nat × Operand)) (k : Nat) (pre rows : List (List C)) (arr : Array Value),
    pre.length = k → k + l.length = n → arr.size = n * sz → (∀ row ∈ pre, row.length = sz) → RowsIn (Zof w0 A L w) w sz k arr pre → sOp.partsOf (evS σ) sz l k = some rows →
    ∃ arr', Instr.fill (fun i => some (i * sz, sz)) arr (l.map fun (i, x) => (i, a.eval x)) = some arr' ∧ arr'.size = n * sz ∧ RowsIn (Zof w0 A L w) w sz n arr' (pre ++ rows) ∧ (∀ row ∈ pre ++ rows, row.length = sz) ∧ (pre ++ rows).length = n
  | [], k, pre, rows, arr, hp, hn, ha, hu, hr, h => by
    simp [sOp.partsOf] at h
    subst h
    refine ⟨arr, rfl, ha, ?_, by simpa using hu, by simp at hn ⊢; omega⟩
    simp at hn
    subst hn
    simpa using hr
  | (i, x) :: l, k, pre, rows, arr, hp, hn, ha, hu, hr, h => by
    simp only [sOp.partsOf] at h
    split at h
    · rename_i g cs rows' hc hrest
      split at h
      · rename_i hcond
        obtain ⟨rfl, hcs⟩ := hcond
        obtain rfl := Option.some.inj h
        simp only [List.length_cons] at hn
        have hx := (cellsF_ok (evS_ok hR 0 x (noTup_of_cellsF hc)) hc).1
        have hle : i * sz + sz ≤ n * sz := by
          calc i * sz + sz = (i + 1) * sz := by rw [Nat.add_mul, Nat.one_mul]
            _ ≤ n * sz := Nat.mul_le_mul_right _ (by omega)
        have h1 : (decide ((a.eval x).cells.size ≠ sz) || decide (i * sz + (a.eval x).cells.size > arr.size)) = false := by
          have := hx.1
          simp only [Bool.or_eq_false_iff, decide_eq_false_iff_not]
          omega
        simp only [List.map_cons, Instr.fill]
        rw [h1]
        simp only [Bool.false_eq_true, if_false]
        have hfold : (a.eval x).cells.zipIdx.foldl (fun cs (c, j) => cs.setIfInBounds (i * sz + j) c) arr = ((a.eval x).cells.toList.zipIdx 0).foldl (fun (cs : Array Value) (x : Value × Nat) => cs.setIfInBounds (i * sz + x.2) x.1) arr := by
          rw [← Array.foldl_toList, Array.toList_zipIdx]
        obtain ⟨e1, e2⟩ := foldl_zip (i * sz) (a.eval x).cells.toList 0 arr (by simp; have := hx.1; omega)
        have hvs : (a.eval x).cells.size = sz := by have := hx.1; omega
        have := partsOf_ok hR (n := n) l (i + 1) (pre ++ [cs]) rows' ((a.eval x).cells.zipIdx.foldl (fun cs (c, j) => cs.setIfInBounds (i * sz + j) c) arr) (by simp [hp]) (by omega) (by rw [hfold, e1, ha])
          (fun row hrow => by rcases List.mem_append.1 hrow with h | h; exact hu row h; simp at h; subst h; exact hcs)
          (fun i' row o c hi hrow ho => by
            rw [hfold, Array.getD_eq_getD_getElem?, e2]
            simp only [Nat.add_zero, Array.length_toList]
            by_cases hlt : i' < i
            · rw [List.getElem?_append_left (by omega)] at hrow
              have ho' : o < sz := by have := hu row (List.mem_of_getElem? hrow); have := (List.getElem?_eq_some_iff.1 ho).1; omega
              have : i' * sz + o < i * sz := by
                calc i' * sz + o < i' * sz + sz := by omega
                  _ = (i' + 1) * sz := by rw [Nat.add_mul, Nat.one_mul]
                  _ ≤ i * sz := Nat.mul_le_mul_right _ (by omega)
              rw [if_neg (by omega)]
              have := hr i' row o c hlt hrow ho
              rwa [Array.getD_eq_getD_getElem?] at this
            · have : i' = i := by omega
              subst this
              rw [List.getElem?_append_right (by omega)] at hrow
              simp [hp] at hrow
              subst hrow
              have ho' : o < sz := by have := (List.getElem?_eq_some_iff.1 ho).1; omega
              rw [if_pos (by omega)]
              have := hx.2 o c ho
              rw [Array.getD_eq_getD_getElem?] at this
              simpa using this) hrest
        simpa using this
      · cases h
    · cases h

theorem buildSlice_ok {σ : St} {a : Act} {w : World} {L : Lab} (hR : Rel P N N w0 A I σ a w L) {t e : TypeId} {sz n : Nat} {parts : Array (Nat × Operand)} {rows : List (List C)} (hE : slE P t = some (e, sz)) (hn : parts.size = n)
    (hn2 : n ≤ 65536) (hsz2 : sz ≤ 16) (hz : ((P.info? e).any (·.zero.isSome)) = true) (h : sOp.partsOf (evS σ) sz parts.toList 0 = some rows) :
    ∃ v w' L1, (Instr.buildSlice t n (parts.map fun (i, x) => (i, a.eval x))).run P w = .ok v w' ∧ Rel P N (N + 1) w0 A I σ a w' L1 ∧ RelS P (Zof w0 A L1 w') L1 w' (tmOf a) σ N v (.ov false [.sl (some e) rows]) := by
  obtain ⟨i, hu, hi, hs, hes⟩ := slE_spec hE
  simp [hi] at hz
  obtain ⟨z, hz⟩ := Option.isSome_iff_exists.1 hz
  have hbig : ¬ (16777216 < n * sz) := by
    have : n * sz ≤ 65536 * 16 := Nat.mul_le_mul hn2 hsz2
    omega
  have hprep : ∀ arr : Array Value, arr.size = n * sz → ∃ arr', Instr.fill (fun i => some (i * sz, sz)) arr (parts.toList.map fun (i, x) => (i, a.eval x)) = some arr' ∧ arr'.size = n * sz ∧ RowsIn (Zof w0 A L w) w sz n arr' rows ∧ (∀ row ∈ rows, row.length = sz) ∧ rows.length = n := by
    intro arr ha
    have := partsOf_ok (P := P) hR (n := n) parts.toList 0 [] rows arr rfl (by simpa using hn) ha (by simp) (fun i row o c h _ _ => by omega) h
    simpa using this
  have hfin : ∀ (cells : Array Value), cells.size = n * sz → RowsIn (Zof w0 A L w) w sz n cells rows → (∀ row ∈ rows, row.length = sz) → rows.length = n →
      Rel P N (N + 1) w0 A I σ a (w.alloc (.cells cells e)) (lab1 L w.heap.size N [(0, 0)]) ∧
      RelS P (Zof w0 A (lab1 L w.heap.size N [(0, 0)]) (w.alloc (.cells cells e))) (lab1 L w.heap.size N [(0, 0)]) (w.alloc (.cells cells e)) (tmOf a) σ N (.slice (some ⟨w.heap.size, 0, none⟩) n n) (.ov false [.sl (some e) rows]) := by
    intro cells hc hr hu2 hl
    have hR' := hR.alloc cells e [(0, 0)]
    have hzz : ∀ b, Zof w0 A L w b → Zof w0 A (lab1 L w.heap.size N [(0, 0)]) (w.alloc (.cells cells e)) b ∧ (w.alloc (.cells cells e)).heap[b]? = w.heap[b]? := fun b ⟨h1, h2, h3⟩ =>
      ⟨⟨by simp [lab1, h1]; omega, by simp; omega, h3⟩, heap_alloc_old w _ b h2⟩
    refine ⟨hR', ⟨rfl, rfl⟩, fun j c hj => ?_⟩
    cases j with
    | succ j => simp at hj
    | zero =>
      simp at hj
      subst hj
      have key : Rep P (Zof w0 A (lab1 L w.heap.size N [(0, 0)]) (w.alloc (.cells cells e))) (lab1 L w.heap.size N [(0, 0)]) (w.alloc (.cells cells e)) N [(0, 0)] (.slice (some ⟨w.heap.size, 0, none⟩) rows.length n) (.sl (some e) rows) := by
        refine .own (by simp [lab1]) (heap_alloc_at _ _) (by omega) (by simp [maxLen]; omega) (by rw [hc, hes]) (fun row hrow => by rw [hu2 row hrow, hes]) fun k row o c h1 h2 => ?_
        refine .frz ?_
        rw [hes]
        exact (hr k row o c (by have := (List.getElem?_eq_some_iff.1 h1).1; omega) h1 h2).mono hzz
      rw [hl] at key
      simpa [Value.cells] using key
  by_cases h0 : n * sz = 0
  · obtain ⟨cells, h1, h2, h3, h4, h5⟩ := hprep ((Array.range (n * sz)).map ((#[] : Array Value)[· % (#[] : Array Value).size]!)) (by simp)
    obtain ⟨h6, h7⟩ := hfin cells h2 h3 h4 h5
    refine ⟨_, _, _, ?_, h6, h7⟩
    have h1' : Instr.fill (fun i => some (i * sz, sz)) #[] (parts.toList.map fun (i, x) => (i, a.eval x)) = some cells := by
      have : ((Array.range (n * sz)).map ((#[] : Array Value)[· % (#[] : Array Value).size]!)) = #[] := by rw [h0]; simp
      rwa [this] at h1
    have he : (Array.map (fun (_ : Nat) => (default : Value)) (Array.range 0)) = #[] := by simp
    simp only [] at h1'
    simp [Instr.buildSlice, run_underlying hu, sizeOf, typeInfo, hi, hs, h0, newRow]
    rw [he]
    rw [h1']
    simp
  · obtain ⟨cells, h1, h2, h3, h4, h5⟩ := hprep ((Array.range (n * sz)).map (z.cells[· % z.cells.size]!)) (by simp)
    obtain ⟨h6, h7⟩ := hfin cells h2 h3 h4 h5
    refine ⟨_, _, _, ?_, h6, h7⟩
    simp [Instr.buildSlice, run_underlying hu, sizeOf, typeInfo, hi, hs, h0, hbig, zeroValue, hz, h1, newRow]
end Go.PV
