/-
  A walk over pure values: new memory.
  Conditions: none.
-/
import Derived.Test.YtlajjggemadajaaPvJ
set_option linter.all false
namespace Go.PV
variable {P : Program} {N : Nat} {w0 : World} {A : Nat → Prop} {I : List Nat}

theorem zCells_ok {vs : List Value} {os : List (Option TypeId)} {cs : List C} (h : zCells vs os = some cs) : cs.length = vs.length ∧
    ∀ (Z : Nat → Prop) (L : Lab) (w : World) (s : Nat) (j : Nat) (c : C) (p : Path), cs[j]? = some c → Rep P Z L w s p ((vs[j]?).getD undef) c := by
  induction vs generalizing os cs with
  | nil =>
    cases os with
    | nil => simp [zCells] at h; subst h; simp
    | cons o os => simp [zCells] at h
  | cons v vs ih =>
    cases os with
    | nil => simp [zCells] at h
    | cons o os =>
      cases o with
      | none =>
        simp only [zCells] at h
        split at h
        · rename_i hv
          cases hr : zCells vs os with
          | none => simp [hr] at h
          | some cs' =>
            simp [hr] at h
            subst h
            obtain ⟨h1, h2⟩ := ih hr
            refine ⟨by simp [h1], fun Z L w s j c p hj => ?_⟩
            cases j with
            | zero => simp at hj; subst hj; exact .frz (.raw hv)
            | succ j => simpa using h2 Z L w s j c p (by simpa using hj)
        · cases h
      | some e =>
        unfold zCells at h
        split at h
        · simp_all
        · simp_all
        · rename_i vs' e' os' h3 h4
          simp at h3 h4
          obtain ⟨rfl, rfl⟩ := h3
          obtain ⟨rfl, rfl⟩ := h4
          cases hr : zCells vs os with
          | none => simp [hr] at h
          | some cs' =>
            simp [hr] at h
            subst h
            obtain ⟨h1, h2⟩ := ih hr
            refine ⟨by simp [h1], fun Z L w s j c p hj => ?_⟩
            cases j with
            | zero => simp at hj; subst hj; exact .onil
            | succ j => simpa using h2 Z L w s j c p (by simpa using hj)
        · cases h

theorem zeroC_spec {t : TypeId} {cs : List C} (h : zeroC P t = some cs) : ∃ i z, P.info? t = some i ∧ i.zero = some z ∧ z.cells.size = i.size ∧ cs.length = i.size ∧
    ∀ (Z : Nat → Prop) (L : Lab) (w : World) (s : Nat) (j : Nat) (c : C) (p : Path), cs[j]? = some c → Rep P Z L w s p (z.cells.getD j undef) c := by
  unfold zeroC at h
  split at h
  · rename_i i os hi ho
    split at h
    · rename_i z hz
      split at h
      · rename_i hs
        obtain ⟨h1, h2⟩ := zCells_ok (P := P) h
        refine ⟨i, z, hi, hz, hs, by simpa [hs] using h1, fun Z L w s j c p hj => ?_⟩
        have := h2 Z L w s j c p hj
        simpa using this
      · cases h
    · cases h
  · cases h

/-- A block that bears one label is laid. -/
def lab1 (L : Lab) (b N : Nat) (q : Path) : Lab := fun x => if x = b then some (N, q) else L x

theorem Rel.alloc {σ : St} {a : Act} {w : World} {L : Lab} (hR : Rel P N N w0 A I σ a w L) (cells : Array Value) (e : TypeId) (q : Path) :
    Rel P N (N + 1) w0 A I σ a (w.alloc (.cells cells e)) (lab1 L w.heap.size N q) := by
  have hb : ∀ b l, L b = some l → b < w.heap.size ∧ l.1 < N := fun b l h => ⟨(hR.lab b l h).1, (hR.lab b l h).2.2⟩
  refine hR.grow ⟨rfl, rfl, rfl, by simp, fun b h => ?_, fun b h => ?_, fun b h l hl => ?_, fun b b' l h1 h2 => ?_⟩
  · exact heap_alloc_old w _ b h
  · simp [lab1]; omega
  · simp only [lab1] at hl
    split at hl
    · obtain rfl := Option.some.inj hl; subst b; exact ⟨rfl, by simp⟩
    · exact absurd (hb b l hl).1 (by omega)
  · simp only [lab1] at h1 h2
    split at h1 <;> split at h2
    · omega
    · obtain rfl := Option.some.inj h1; exact absurd (hb _ _ h2).2 (by simp)
    · obtain rfl := Option.some.inj h2; exact absurd (hb _ _ h1).2 (by simp)
    · exact hR.inj _ _ _ h1 h2

theorem heap_alloc_at (w : World) (o : Obj) : (w.alloc o).heap[w.heap.size]? = some o := heap_alloc_new w o

theorem alloc_ok {σ : St} {a : Act} {w : World} {L : Lab} (hR : Rel P N N w0 A I σ a w L) {t : TypeId} {cs : List C} (h : zeroC P t = some cs) :
    ∃ v w' L1, (Instr.alloc t true (.tuple #[])).run P w = .ok v w' ∧ Rel P N (N + 1) w0 A I σ a w' L1 ∧ RelS P (Zof w0 A L1 w') L1 w' (tmOf a) σ N v (.box cs) := by
  obtain ⟨i, z, hi, hz, hs, hl, hr⟩ := zeroC_spec h
  refine ⟨.pointer (some ⟨w.heap.size, 0, none⟩), w.alloc (.cells z.cells t), _, ?_, hR.alloc z.cells t [], w.heap.size, rfl, by simp [lab1], z.cells, t, heap_alloc_at _ _, by omega, fun j c hj => hr _ _ _ _ _ _ _ hj⟩
  simp [Instr.alloc, zeroValue, typeInfo, hi, hz, newVar, newRow]

theorem makeSlice_ok {σ : St} {a : Act} {w : World} {L : Lab} (hR : Rel P N N w0 A I σ a w L) {t e : TypeId} {sz n : Nat} {z : List C} (hE : slE P t = some (e, sz)) (hn : n ≤ 1099511627776)
    (hz : zeroC P e = some z) (hby : ((P.info? e).map (·.bytes)).getD 0 ≤ 128) :
    ∃ v w' L1, (Instr.makeSlice t (.int .i64 (n : Int)) (.int .i64 (n : Int))).run P w = .ok v w' ∧ Rel P N (N + 1) w0 A I σ a w' L1 ∧
      RelS P (Zof w0 A L1 w') L1 w' (tmOf a) σ N v (.ov false [.sl (some e) (List.replicate n z)]) := by
  obtain ⟨i, hu, hi, hs, hes⟩ := slE_spec hE
  obtain ⟨i', zv, hi', hzv, hzs, hl, hr⟩ := zeroC_spec hz
  rw [hi] at hi'
  obtain rfl := Option.some.inj hi'
  simp [hi] at hby
  have hrun := run_make (P := P) w t e i zv hu hi hzv .i64 .i64 n n (by omega) (Int.le_refl _) (by
    have h1 : i.bytes * n ≤ 128 * 1099511627776 := Nat.mul_le_mul hby hn
    have h2 : ((i.bytes * n : Nat) : Int) ≤ 281474976710656 := by omega
    rwa [Int.natCast_mul] at h2) (by omega)
  simp only [Int.toNat_natCast] at hrun
  refine ⟨_, _, _, hrun, hR.alloc _ e [(0, 0)], ⟨rfl, rfl⟩, fun j c hj => ?_⟩
  cases j with
  | succ j => simp at hj
  | zero =>
    simp at hj
    subst hj
    show Rep P _ _ _ N [(0, 0)] (.slice (some ⟨w.heap.size, 0, none⟩) n n) _
    have key : Rep P (Zof w0 A (lab1 L w.heap.size N [(0, 0)]) (w.alloc (.cells (madeCells zv.cells (n * i.size)) e))) (lab1 L w.heap.size N [(0, 0)]) (w.alloc (.cells (madeCells zv.cells (n * i.size)) e)) N [(0, 0)]
        (.slice (some ⟨w.heap.size, 0, none⟩) (List.replicate n z).length n) (.sl (some e) (List.replicate n z)) := by
      refine .own (by simp [lab1]) (heap_alloc_at _ _) (by simp) (by simp [maxLen]; omega) (by rw [size_madeCells, hes, hs]) ?_ ?_
      · intro row hrow
        obtain ⟨_, rfl⟩ := List.mem_replicate.1 hrow
        omega
      · intro k row o c h1 h2
        have hk : k < n := by have := (List.getElem?_eq_some_iff.1 h1).1; simpa using this
        rw [List.getElem?_replicate, if_pos hk] at h1
        obtain rfl := Option.some.inj h1
        have ho : o < z.length := (List.getElem?_eq_some_iff.1 h2).1
        have hlt : k * esz P e + o < n * i.size := by
          rw [hes, ← hs]
          calc k * i.size + o < k * i.size + i.size := by omega
            _ = (k + 1) * i.size := by rw [Nat.add_mul, Nat.one_mul]
            _ ≤ n * i.size := Nat.mul_le_mul_right _ (by omega)
        have : (madeCells zv.cells (n * i.size)).getD (k * esz P e + o) undef = zv.cells.getD o undef := by
          have hmod : (k * esz P e + o) % i.size = o := by
            rw [hes, ← hs, Nat.mul_comm, Nat.mul_add_mod, Nat.mod_eq_of_lt (by omega)]
          simp only [madeCells, Array.getD_eq_getD_getElem?]
          rw [Array.getElem?_map, Array.getElem?_range, if_pos hlt]
          simp only [Option.map_some, Option.getD_some, hzs, hmod]
          have : o < zv.cells.size := by omega
          simp [this]
        rw [this]
        exact hr _ _ _ _ _ _ _ h2
    simpa using key
end Go.PV
