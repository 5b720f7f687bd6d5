/-
  A walk over pure values: the operations that only yield are sound.
  Conditions: none.
-/
import Derived.Test.YtlajjggemadajaaPvG
set_option linter.all false
namespace Go.PV
variable {P : Program} {N : Nat} {w0 : World} {A : Nat → Prop} {I : List Nat}

abbrev tmOf (a : Act) : Nat → Value := fun s => a.tmps.getD s undef

theorem Rel.up {σ : St} {a : Act} {w : World} {L : Lab} (hR : Rel P N N w0 A I σ a w L) : Rel P N (N + 1) w0 A I σ a w L :=
  hR.grow (Grow.refl hR.inj fun b l h => (hR.lab b l h).1)

theorem wp_val {o : Oper} {a : Act} {w w' : World} {next : Act → World → Prop} {Q : Exit → Act → World → Prop} {v : Value}
    (h : (execOp a.eval o).run P w = .ok (.value v) w') (hn : next (a.put o.dst v) w') : o.wp P a w next Q := by
  unfold Oper.wp
  rw [h]
  exact hn

theorem pt_fadr {Z : Nat → Prop} {L : Lab} {w : World} {tm : Nat → Value} {σ : St} {s : Nat} {tv : Value} {cs : List C} (h : FrzV Z w false tv [.pt cs]) : RelS P Z L w tm σ s tv (.fadr cs) := by
  have h1 := h.1
  simp only [VShape, Bool.false_eq_true, if_false] at h1
  have h2 := h.2 0 _ rfl
  rw [h1.1] at h2
  have h3 : Frz Z w tv (.pt cs) := h2
  cases h3 with
  | pt vs hz hc hr => exact ⟨_, _, hz, rfl, fun j c hj => ⟨_, hc j c hj, hr j c hj⟩⟩
theorem fadr_pt {Z : Nat → Prop} {L : Lab} {w : World} {tm : Nat → Value} {σ : St} {s : Nat} {tv : Value} {cs : List C} (h : RelS P Z L w tm σ s tv (.fadr cs)) : FrzV Z w false tv [.pt cs] := by
  obtain ⟨b, off, hz, rfl, hc⟩ := h
  have hx : ∃ vs : Nat → Value, ∀ (j : Nat) (c : C), cs[j]? = some c → w.cell? ⟨b, off + j, none⟩ = some (vs j) ∧ Frz Z w (vs j) c := by
    refine ⟨fun j => (w.cell? ⟨b, off + j, none⟩).getD undef, fun j c hj => ?_⟩
    obtain ⟨v, h1, h2⟩ := hc j c hj
    simp only [h1, Option.getD_some]; exact ⟨trivial, h2⟩
  obtain ⟨vs, hvs⟩ := hx
  refine ⟨⟨rfl, rfl⟩, fun j c hj => ?_⟩
  cases j with
  | zero =>
    simp at hj
    subst hj
    exact .pt vs hz (fun j c h => (hvs j c h).1) (fun j c h => (hvs j c h).2)
  | succ j => simp at hj
theorem evS_ok {σ : St} {a : Act} {w : World} {L : Lab} (hR : Rel P N N w0 A I σ a w L) (s : Nat) (x : Operand) (hx : noTup (evS σ x) = true) :
    RelS P (Zof w0 A L w) L w (tmOf a) σ s (a.eval x) (evS σ x) := by
  cases x with
  | tmp t =>
    have h := hR.slot t
    simp only [evS, Act.eval] at hx ⊢
    cases ht : σ t with
    | u => simp only []; trivial
    | p v => rw [ht] at h; exact h
    | d g cs =>
      rw [ht] at h
      split
      · rename_i heq; cases heq
      · rename_i heq; cases heq
      · rename_i cs' heq
        simp only [SV.d.injEq] at heq
        obtain ⟨rfl, rfl⟩ := heq
        exact pt_fadr h
      · exact h
    | ov g cs =>
      rw [ht] at h
      simp only []
      refine ⟨by rw [ht]; rfl, .inl ⟨by rw [ht]; rfl, rfl, ?_⟩⟩
      cases g with
      | true => exact ⟨rfl, h.1⟩
      | false =>
        have h1 := h.1
        simp only [VShape] at h1
        simp only [Bool.false_eq_true, if_false] at h1 ⊢
        show tmOf a t = (tmOf a t).cells.getD 0 undef
        have h2 : (tmOf a t).cells = #[tmOf a t] := h1.1
        rw [h2]
        rfl
    | box cs =>
      rw [ht] at h
      obtain ⟨b, h1, h2, arr, e, h3, h4, h5⟩ := h
      refine ⟨by rw [ht]; rfl, [], 0, 0, b, arr, e, rfl, fun _ => by rw [ht]; rfl, h2, h3, ?_⟩
      simpa using h1
    | ref r q n => rw [ht] at h; exact h
    | addr r q => rw [ht] at h; exact h
    | fadr cs => rw [ht] at h; exact h
    | tup l =>
      rw [ht] at hx h
      simp only [noTup] at hx
      obtain ⟨arr, e1, e2, e3⟩ := h
      refine ⟨arr, e1, e2, fun j y hj => ?_⟩
      have h4 := e3 j y hj
      have h5 := List.all_eq_true.1 hx y (List.mem_of_getElem? hj)
      cases y <;> first | exact h4 | simp [isDR] at h5
  | const v =>
    simp only [evS, Act.eval]
    split
    · refine ⟨⟨rfl, rfl⟩, fun j c hj => ?_⟩
      cases j with
      | zero => simp at hj; subst hj; exact Frz.nil
      | succ j => simp at hj
    · rfl
  | global g => trivial
  | func f => rfl

theorem evS_p {σ : St} {a : Act} {w : World} {L : Lab} (hR : Rel P N N w0 A I σ a w L) {x : Operand} {v : Value} (hx : evS σ x = .p v) : a.eval x = v := by
  have := evS_ok hR 0 x (by rw [hx]; rfl)
  rw [hx] at this
  exact this

theorem evS_tup {σ : St} {x : Operand} {l : List SV} (hx : evS σ x = .tup l) : ∃ t, x = .tmp t ∧ σ t = .tup l := by
  cases x with
  | tmp t =>
    simp only [evS] at hx
    refine ⟨t, rfl, ?_⟩
    split at hx
    · cases hx
    · cases hx
    · cases hx
    · exact hx
  | const v => simp only [evS] at hx; split at hx <;> cases hx
  | global g => cases hx
  | func f => cases hx

/-! ### Places -/
def Kids (P : Program) (Z : Nat → Prop) (L : Lab) (w : World) (r : Nat) (q0 : Path) (rd : Nat → Nat → Value) (rows : List (List C)) : Prop :=
  ∀ (i : Nat) (row : List C) (o : Nat) (c : C), rows[i]? = some row → row[o]? = some c → Rep P Z L w r (q0 ++ [(i, o)]) (rd i o) c

/-- A block that is the node q of r. -/
structure NodeB (P : Program) (Z : Nat → Prop) (L : Lab) (w : World) (r : Nat) (q : Path) (b : Nat) (arr : Array Value) (e : TypeId) (rows : List (List C)) : Prop where
  lab : L b = some (r, q)
  heap : w.heap[b]? = some (.cells arr e (0, 0))
  kids : Kids P Z L w r q (fun i o => arr.getD (i * esz P e + o) undef) rows
  inb : ∀ (i : Nat) (row : List C) (o : Nat), rows[i]? = some row → o < row.length → i * esz P e + o < arr.size
  uni : (∀ row ∈ rows, row.length = esz P e) ∨ rows.length ≤ 1

theorem Rep.node {Z : Nat → Prop} {L : Lab} {w : World} {r : Nat} {p : Path} {v : Value} {e : TypeId} {rows : List (List C)} (h : Rep P Z L w r p v (.sl (some e) rows)) :
    (v = .slice none 0 0 ∧ rows = []) ∨ ∃ b arr cap, v = .slice (some ⟨b, 0, none⟩) rows.length cap ∧ rows.length ≤ cap ∧ cap ≤ maxLen ∧ arr.size = cap * esz P e ∧ (∀ row ∈ rows, row.length = esz P e) ∧ NodeB P Z L w r p b arr e rows := by
  cases h with
  | frz h => cases h
  | onil => exact .inl ⟨rfl, rfl⟩
  | own hl hg hn hm ha hsz hr =>
    rename_i g cap arr
    refine .inr ⟨g, arr, cap, rfl, hn, hm, ha, hsz, hl, hg, hr, ?_, .inl hsz⟩
    intro i row o h1 h2
    exact row_in h1 (List.getElem?_eq_getElem h2) hsz hn ha

theorem getRow_cons {rows : List (List C)} {i o : Nat} {x : Nat × Nat} {q : Path} {cs : List C} (h : getRow rows ((i, o) :: x :: q) = some cs) :
    ∃ (row : List C) (e : TypeId) (rows' : List (List C)), rows[i]? = some row ∧ row[o]? = some (.sl (some e) rows') ∧ getRow rows' (x :: q) = some cs := by
  simp only [getRow] at h
  cases hi : rows[i]? with
  | none => simp [hi] at h
  | some row =>
    simp only [hi, Option.bind_some] at h
    cases ho : row[o]? with
    | none => simp [ho] at h
    | some c =>
      simp only [ho] at h
      cases c with
      | sl t rows' =>
        cases t with
        | none => simp at h
        | some e => exact ⟨row, e, rows', rfl, ho, h⟩
      | _ => simp at h

theorem getRow_one {rows : List (List C)} {i o : Nat} {cs : List C} (h : getRow rows [(i, o)] = some cs) : ∃ row, rows[i]? = some row ∧ cs = row.drop o := by
  simp only [getRow] at h
  cases hi : rows[i]? with
  | none => simp [hi] at h
  | some row => simp [hi] at h; exact ⟨row, rfl, h.symm⟩

/-- A place beyond the root lies in a block that bears its node's label. -/
theorem getRow_node {Z : Nat → Prop} {L : Lab} {w : World} {r : Nat} {cs : List C} {i o : Nat} : ∀ (q : Path) (rows : List (List C)) (q0 : Path) (rd : Nat → Nat → Value),
    Kids P Z L w r q0 rd rows → q ≠ [] → getRow rows (q ++ [(i, o)]) = some cs →
    ∃ b arr e rows' row, NodeB P Z L w r (q0 ++ q) b arr e rows' ∧ rows'[i]? = some row ∧ cs = row.drop o
  | [], _, _, _, _, h, _ => absurd rfl h
  | [(i1, o1)], rows, q0, rd, hk, _, hg => by
    obtain ⟨row1, e, rows', h1, h2, h3⟩ := getRow_cons (x := (i, o)) (q := []) hg
    have hrep := hk i1 row1 o1 _ h1 h2
    obtain ⟨row, h4, h5⟩ := getRow_one h3
    rcases hrep.node with ⟨_, rfl⟩ | ⟨b, arr, cap, _, _, _, _, _, hn⟩
    · simp at h4
    · exact ⟨b, arr, e, rows', row, hn, h4, h5⟩
  | (i1, o1) :: x :: q, rows, q0, rd, hk, _, hg => by
    obtain ⟨row1, e, rows', h1, h2, h3⟩ := getRow_cons (x := x) (q := q ++ [(i, o)]) hg
    have hrep := hk i1 row1 o1 _ h1 h2
    rcases hrep.node with ⟨_, rfl⟩ | ⟨b, arr, cap, _, _, _, _, _, hn⟩
    · cases q <;> (obtain ⟨x1, x2⟩ := x; simp [getRow] at h3)
    · have := getRow_node (x :: q) rows' (q0 ++ [(i1, o1)]) _ hn.kids (by simp) (by simpa using h3)
      simpa using this

/-- What a root's own row of cells is. -/
theorem root_kids {σ : St} {a : Act} {w : World} {L : Lab} (hR : Rel P N N w0 A I σ a w L) {r : Nat} {cs0 : List C} (h : rows1 (σ r) = [cs0]) :
    ∃ rd, Kids P (Zof w0 A L w) L w r [] rd [cs0] ∧ (isBox (σ r) = false → VShape (match σ r with | .d g _ | .ov g _ => g | _ => false) (tmOf a r) cs0.length ∧ ∀ o, o < cs0.length → rd 0 o = (tmOf a r).cells.getD o undef) ∧
      (isBox (σ r) = true → ∃ b arr e, NodeB P (Zof w0 A L w) L w r [] b arr e [cs0] ∧ arr.size = cs0.length ∧ tmOf a r = .pointer (some ⟨b, 0, none⟩)) := by
  have hs := hR.slot r
  have one : ∀ (i : Nat) (row : List C), ([cs0] : List (List C))[i]? = some row → i = 0 ∧ row = cs0 := fun i row h => by
    cases i with
    | zero => simp at h; exact ⟨rfl, h.symm⟩
    | succ i => simp at h
  cases hr : σ r with
  | d g cs =>
    rw [hr] at hs h
    simp [rows1] at h
    subst h
    refine ⟨fun _ o => (tmOf a r).cells.getD o undef, fun i row o c h1 h2 => ?_, fun _ => ⟨hs.1, fun _ _ => rfl⟩, fun h => by simp [isBox] at h⟩
    obtain ⟨rfl, rfl⟩ := one i row h1
    exact .frz (hs.2 o c h2)
  | ov g cs =>
    rw [hr] at hs h
    simp [rows1] at h
    subst h
    refine ⟨fun _ o => (tmOf a r).cells.getD o undef, fun i row o c h1 h2 => ?_, fun _ => ⟨hs.1, fun _ _ => rfl⟩, fun h => by simp [isBox] at h⟩
    obtain ⟨rfl, rfl⟩ := one i row h1
    exact hs.2 o c h2
  | box cs =>
    rw [hr] at hs h
    simp [rows1] at h
    subst h
    obtain ⟨b, h1, h2, arr, e, h3, h4, h5⟩ := hs
    refine ⟨fun i o => arr.getD (i * esz P e + o) undef, fun i row o c h6 h7 => ?_, fun h => by simp [isBox] at h, fun _ => ⟨b, arr, e, ⟨h2, h3, fun i row o c h6 h7 => ?_, fun i row o h6 h7 => ?_, .inr (by simp)⟩, h4, h1⟩⟩
    · obtain ⟨rfl, rfl⟩ := one i row h6
      simpa using h5 o c h7
    · obtain ⟨rfl, rfl⟩ := one i row h6
      simpa using h5 o c h7
    · obtain ⟨rfl, rfl⟩ := one i row h6
      rw [h4]; simpa using h7
  | _ => rw [hr] at h; simp [rows1] at h

theorem rows1_cases (x : SV) : rows1 x = [] ∨ ∃ cs, rows1 x = [cs] := by
  cases x <;> simp [rows1]
theorem rows1_root {x : SV} {cs : List C} (h : rows1 x = [cs]) : isRoot x = true := by
  cases x <;> simp_all [rows1, isRoot]

/-- The cells at an address's place. -/
theorem addr_cells {σ : St} {a : Act} {w : World} {L : Lab} (hR : Rel P N N w0 A I σ a w L) {s r : Nat} {q : Path} {tv : Value} {cs : List C}
    (h : RelS P (Zof w0 A L w) L w (tmOf a) σ s tv (.addr r q)) (hg : getRow (rows1 (σ r)) q = some cs) :
    ∃ q0 i o b arr e rows row, q = q0 ++ [(i, o)] ∧ NodeB P (Zof w0 A L w) L w r q0 b arr e rows ∧ rows[i]? = some row ∧ cs = row.drop o ∧ tv = .pointer (some ⟨b, i * esz P e + o, none⟩) := by
  obtain ⟨_, q0, i, o, b, arr, e, rfl, hbxx, hl, hh, rfl⟩ := h
  rcases rows1_cases (σ r) with h0 | ⟨cs0, h0⟩
  · rw [h0] at hg
    cases q0 with
    | nil => simp [getRow] at hg
    | cons x q0 => cases q0 <;> (obtain ⟨x1, x2⟩ := x; simp [getRow] at hg)
  · obtain ⟨rd, hk, hv, hbx⟩ := root_kids hR h0
    rw [h0] at hg
    by_cases hq : q0 = []
    · subst hq
      obtain ⟨row, h1, h2⟩ := getRow_one hg
      cases hb : isBox (σ r) with
      | true =>
        obtain ⟨b', arr', e', hn, _, _⟩ := hbx hb
        obtain rfl := hR.inj _ _ _ hl hn.lab
        rw [hn.heap] at hh
        simp at hh
        obtain ⟨rfl, rfl⟩ := hh
        exact ⟨[], i, o, b, arr', e', _, row, rfl, hn, h1, h2, rfl⟩
      | false => rw [hbxx rfl] at hb; cases hb
    · obtain ⟨b', arr', e', rows', row, hn, h1, h2⟩ := getRow_node q0 _ [] rd hk hq hg
      simp only [List.nil_append] at hn
      obtain rfl := hR.inj _ _ _ hl hn.lab
      rw [hn.heap] at hh
      simp at hh
      obtain ⟨rfl, rfl⟩ := hh
      exact ⟨q0, i, o, b, arr', e', _, row, rfl, hn, h1, h2, rfl⟩
end Go.PV
