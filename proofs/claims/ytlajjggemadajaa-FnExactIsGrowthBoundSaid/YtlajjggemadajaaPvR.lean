/-
  A walk over pure values: a place within data replaced.
  Conditions: none.
-/
import Derived.Test.YtlajjggemadajaaPvQ
set_option linter.all false
namespace Go.PV
variable {P : Program} {N : Nat} {w0 : World} {A : Nat → Prop} {I : List Nat}

theorem setR_eq (l : List C) (o : Nat) (q : Path) (cs : List C) : setR l o q cs = l.modify o (fun c => setC c q cs) := by
  induction l generalizing o with
  | nil => simp [setR]
  | cons c l ih =>
    cases o with
    | zero => simp [setR]
    | succ o => simp [setR, ih]
theorem setL_one (rows : List (List C)) (i o : Nat) (cs : List C) : setL rows [(i, o)] cs = rows.modify i (fun r => r.take o ++ cs ++ r.drop (o + cs.length)) := by
  induction rows generalizing i with
  | nil => simp [setL]
  | cons r l ih =>
    cases i with
    | zero => simp [setL]
    | succ i => simp [setL, ih]
theorem setL_more (rows : List (List C)) (i o : Nat) (x : Nat × Nat) (q : Path) (cs : List C) : setL rows ((i, o) :: x :: q) cs = rows.modify i (fun r => r.modify o (fun c => setC c (x :: q) cs)) := by
  induction rows generalizing i with
  | nil => simp [setL]
  | cons r l ih =>
    cases i with
    | zero => simp [setL, setR_eq]
    | succ i => simp [setL, ih]

theorem modify_get {α : Type} {l : List α} {i j : Nat} {f : α → α} {y : α} (h : (l.modify i f)[j]? = some y) : ∃ x, l[j]? = some x ∧ y = if i = j then f x else x := by
  rw [List.getElem?_modify] at h
  cases hj : l[j]? with
  | none => simp [hj] at h
  | some x => simp [hj] at h; exact ⟨x, rfl, h.symm⟩

/-- What a replaced row reads. -/
theorem splice_get {row cs : List C} {o j : Nat} {c : C} (hle : o + cs.length ≤ row.length) (h : (row.take o ++ cs ++ row.drop (o + cs.length))[j]? = some c) :
    (o ≤ j ∧ j < o + cs.length ∧ cs[j - o]? = some c) ∨ (¬ (o ≤ j ∧ j < o + cs.length) ∧ row[j]? = some c) := by
  by_cases h1 : j < o
  · right
    rw [List.append_assoc, List.getElem?_append_left (by simp; omega), List.getElem?_take, if_pos h1] at h
    exact ⟨by omega, h⟩
  · by_cases h2 : j < o + cs.length
    · left
      rw [List.getElem?_append_left (by simp; omega), List.getElem?_append_right (by simp; omega)] at h
      simp only [List.length_take] at h
      rw [show min o row.length = o from by omega] at h
      exact ⟨by omega, h2, h⟩
    · right
      rw [List.getElem?_append_right (by simp; omega)] at h
      simp only [List.length_append, List.length_take, List.getElem?_drop] at h
      rw [show o + cs.length + (j - (min o row.length + cs.length)) = j from by omega] at h
      exact ⟨by omega, h⟩
theorem splice_len {row cs : List C} {o : Nat} (hle : o + cs.length ≤ row.length) : (row.take o ++ cs ++ row.drop (o + cs.length)).length = row.length := by
  simp; omega

/-- The places below a place. -/
def under (q0 : Path) (i o n : Nat) (q : Path) : Prop := ∃ j q', j < n ∧ q = q0 ++ (i, o + j) :: q'

structure SetUp (P : Program) (Z : Nat → Prop) (L : Lab) (w : World) (Z' : Nat → Prop) (L' : Lab) (w' : World) (r : Nat) (q0 : Path) (i o : Nat) (cs : List C) (vs : Nat → Value) : Prop where
  z : ∀ b, Z b → Z' b ∧ w'.heap[b]? = w.heap[b]?
  keep : ∀ b q, L b = some (r, q) → ¬ under q0 i o cs.length q → L' b = some (r, q)
  heap : ∀ b q, L b = some (r, q) → ¬ under q0 i o cs.length q → q ≠ q0 → w'.heap[b]? = w.heap[b]?
  new : ∀ (j : Nat) (c : C), cs[j]? = some c → Rep P Z' L' w' r (q0 ++ [(i, o + j)]) (vs j) c

theorem not_under_len {q0 : Path} {i o n : Nat} {q : Path} (h : q.length ≤ q0.length) : ¬ under q0 i o n q := by
  rintro ⟨j, q', _, rfl⟩
  simp at h
  omega

/-- A cell of another place stays. -/
theorem SetUp.move {Z Z' : Nat → Prop} {L L' : Lab} {w w' : World} {r : Nat} {q0 : Path} {i o : Nat} {cs : List C} {vs : Nat → Value} (S : SetUp P Z L w Z' L' w' r q0 i o cs vs)
    {p : Path} {v : Value} {c : C} (h : Rep P Z L w r p v c) (hp : ∀ q, p ++ q ≠ q0 ∧ ¬ under q0 i o cs.length (p ++ q)) : Rep P Z' L' w' r p v c :=
  h.move p S.z fun b q hb => ⟨S.keep b _ hb (hp q).2, S.heap b _ hb (hp q).2 (hp q).1⟩

/-- The node's own block, read anew. -/
def NewBlock (P : Program) (L : Lab) (w w' : World) (r : Nat) (q0 : Path) (i o n : Nat) (vs : Nat → Value) : Prop :=
  ∀ (b : Nat) (arr : Array Value) (e : TypeId), L b = some (r, q0) → w.heap[b]? = some (.cells arr e (0, 0)) → ∃ arr' : Array Value, w'.heap[b]? = some (.cells arr' e (0, 0)) ∧ arr'.size = arr.size ∧
    ∀ k, arr'.getD k undef = if i * esz P e + o ≤ k ∧ k < i * esz P e + o + n then vs (k - (i * esz P e + o)) else arr.getD k undef

theorem app_ne_of_head {p q0 : Path} {x y : Nat × Nat} {q q' : Path} (hxy : x ≠ y) : p ++ x :: q ≠ p ++ y :: q' := by
  intro h
  have := List.append_cancel_left h
  simp at this
  exact hxy this.1

theorem set_base {Z Z' : Nat → Prop} {L L' : Lab} {w w' : World} {r : Nat} {q0 : Path} {i o : Nat} {cs : List C} {vs : Nat → Value} (S : SetUp P Z L w Z' L' w' r q0 i o cs vs)
    {rows : List (List C)} {rd rd' : Nat → Nat → Value} (hk : Kids P Z L w r q0 rd rows) {row : List C} (hrow : rows[i]? = some row) (hle : o + cs.length ≤ row.length)
    (hrd : ∀ (i' : Nat) (row' : List C) (o' : Nat) (c : C), rows[i']? = some row' → row'[o']? = some c → rd' i' o' = if i' = i ∧ o ≤ o' ∧ o' < o + cs.length then vs (o' - o) else rd i' o') :
    Kids P Z' L' w' r q0 rd' (setL rows [(i, o)] cs) := by
  rw [setL_one]
  intro i' row' o' c h1 h2
  obtain ⟨row1, h3, rfl⟩ := modify_get h1
  by_cases hi : i = i'
  · subst hi
    rw [if_pos rfl] at h2
    obtain rfl : row1 = row := by rw [hrow] at h3; exact (Option.some.inj h3).symm
    have hlt : o' < row1.length := by
      have := (List.getElem?_eq_some_iff.1 h2).1
      rw [splice_len hle] at this
      exact this
    rw [hrd i row1 o' _ h3 (List.getElem?_eq_getElem hlt)]
    rcases splice_get hle h2 with ⟨h4, h5, h6⟩ | ⟨h4, h5⟩
    · rw [if_pos ⟨rfl, h4, h5⟩]
      have := S.new _ c h6
      rwa [show o + (o' - o) = o' from by omega] at this
    · rw [if_neg (by rintro ⟨_, a, b⟩; exact h4 ⟨a, b⟩)]
      refine S.move (hk i row1 o' c h3 h5) fun q => ⟨?_, ?_⟩
      · simp
      · rintro ⟨j, q', hj, he⟩
        simp at he
        omega
  · rw [if_neg hi] at h2
    rw [hrd i' row1 o' c h3 h2, if_neg (by rintro ⟨h, _⟩; exact hi h.symm)]
    refine S.move (hk i' row1 o' c h3 h2) fun q => ⟨?_, ?_⟩
    · simp
    · rintro ⟨j, q', hj, he⟩
      simp at he
      exact hi he.1.1.symm

/-- **A place replaced, however deep.** -/
theorem set_kids {Z Z' : Nat → Prop} {L L' : Lab} {w w' : World} {r i o : Nat} {cs : List C} {vs : Nat → Value} : ∀ (q : Path) (p0 : Path) (rows : List (List C)) (rd : Nat → Nat → Value) (old : List C),
    SetUp P Z L w Z' L' w' r (p0 ++ q) i o cs vs → NewBlock P L w w' r (p0 ++ q) i o cs.length vs → q ≠ [] → Kids P Z L w r p0 rd rows → getRow rows (q ++ [(i, o)]) = some old → cs.length ≤ old.length → 0 < cs.length →
    Kids P Z' L' w' r p0 rd (setL rows (q ++ [(i, o)]) cs)
  | [], _, _, _, _, _, _, h, _, _, _, _ => absurd rfl h
  | (i1, o1) :: q, p0, rows, rd, old, S, B, _, hk, hg, hle, hpos => by
    obtain ⟨x, q', hq'⟩ : ∃ x q', q ++ [(i, o)] = x :: q' := by
      cases q with
      | nil => exact ⟨_, _, rfl⟩
      | cons x q => exact ⟨_, _, rfl⟩
    have hpath : (i1, o1) :: q ++ [(i, o)] = (i1, o1) :: x :: q' := by rw [List.cons_append, hq']
    rw [hpath] at hg ⊢
    obtain ⟨row1, e, rows', h1, h2, h3⟩ := getRow_cons hg
    rw [setL_more]
    intro i' row' o' c h4 h5
    obtain ⟨row2, h6, rfl⟩ := modify_get h4
    -- the label of the node below
    have hout : ∀ (i' o' : Nat), (i', o') ≠ (i1, o1) → ∀ qq, p0 ++ [(i', o')] ++ qq ≠ p0 ++ (i1, o1) :: q ∧ ¬ under (p0 ++ (i1, o1) :: q) i o cs.length (p0 ++ [(i', o')] ++ qq) := by
      intro i' o' hne qq
      refine ⟨?_, ?_⟩
      · rw [List.append_assoc]
        exact app_ne_of_head (q0 := []) hne
      · rintro ⟨j, q', hj, he⟩
        rw [List.append_assoc, List.append_assoc] at he
        exact app_ne_of_head (q0 := []) hne he
    by_cases hi : i1 = i'
    · subst hi
      rw [if_pos rfl] at h5
      obtain rfl : row2 = row1 := by rw [h1] at h6; exact (Option.some.inj h6).symm
      obtain ⟨c0, h7, rfl⟩ := modify_get h5
      by_cases ho : o1 = o'
      · subst ho
        rw [if_pos rfl]
        obtain rfl : c0 = .sl (some e) rows' := by rw [h2] at h7; exact (Option.some.inj h7).symm
        have hrep := hk i1 row2 o1 _ h1 h2
        simp only [setC]
        generalize hv : rd i1 o1 = v at hrep ⊢
        cases hrep with
        | frz h => cases h
        | onil =>
          cases q <;> (obtain ⟨x1, x2⟩ := x; cases q' <;> simp [getRow] at h3)
        | @own _ g cap arr _ _ hl hgp hn hm ha hsz hr =>
          have hnl : ¬ under (p0 ++ (i1, o1) :: q) i o cs.length (p0 ++ [(i1, o1)]) := not_under_len (by simp)
          have hl' := S.keep g _ hl hnl
          have hkids : Kids P Z L w r (p0 ++ [(i1, o1)]) (fun i o => arr.getD (i * esz P e + o) undef) rows' := fun i row o c a b => hr i row o c a b
          have hlen : (setL rows' (x :: q') cs).length = rows'.length := by
            obtain ⟨x1, x2⟩ := x
            cases q' with
            | nil => rw [setL_one]; simp
            | cons y q'' => rw [setL_more]; simp
          by_cases hq : q = []
          · subst hq
            simp at hq'
            obtain ⟨rfl, rfl⟩ := hq'
            obtain ⟨rowx, h8, h9⟩ := getRow_one h3
            have hle2 : o + cs.length ≤ rowx.length := by rw [h9, List.length_drop] at hle; have := hle; omega
            obtain ⟨arr', ha1, ha2, ha3⟩ := B g arr e hl hgp
            have hrowsz := hsz rowx (List.mem_of_getElem? h8)
            have key : Kids P Z' L' w' r (p0 ++ [(i1, o1)]) (fun i o => arr'.getD (i * esz P e + o) undef) (setL rows' [(i, o)] cs) := by
              refine set_base S hkids h8 hle2 fun i'' row'' o'' c'' h10 h11 => ?_
              show arr'.getD (i'' * esz P e + o'') undef = _
              rw [ha3]
              have ho'' : o'' < esz P e := by have := hsz row'' (List.mem_of_getElem? h10); have := (List.getElem?_eq_some_iff.1 h11).1; omega
              by_cases hii : i'' = i
              · subst hii
                by_cases hr1 : o ≤ o'' ∧ o'' < o + cs.length
                · rw [if_pos (by omega), if_pos ⟨rfl, hr1⟩]
                  congr 1
                  omega
                · rw [if_neg (by omega), if_neg (by rintro ⟨_, h⟩; exact hr1 h)]
              · have e2 : ¬ (i'' = i ∧ o ≤ o'' ∧ o'' < o + cs.length) := by rintro ⟨h, _⟩; exact hii h
                rw [if_neg e2]
                rw [if_neg]
                rintro ⟨h12, h13⟩
                rcases Nat.lt_or_gt_of_ne hii with hlt | hgt
                · have : i'' * esz P e + esz P e ≤ i * esz P e := by
                    calc i'' * esz P e + esz P e = (i'' + 1) * esz P e := by rw [Nat.add_mul, Nat.one_mul]
                      _ ≤ i * esz P e := Nat.mul_le_mul_right _ (by omega)
                  omega
                · have : i * esz P e + esz P e ≤ i'' * esz P e := by
                    calc i * esz P e + esz P e = (i + 1) * esz P e := by rw [Nat.add_mul, Nat.one_mul]
                      _ ≤ i'' * esz P e := Nat.mul_le_mul_right _ (by omega)
                  omega
            rw [← hlen] 
            refine .own hl' ha1 (by rw [hlen]; exact hn) hm (by rw [ha2]; exact ha) ?_ key
            intro rowy hy
            obtain ⟨iy, hiy⟩ := List.mem_iff_getElem?.1 hy
            rw [setL_one] at hiy
            obtain ⟨rowz, h10, rfl⟩ := modify_get hiy
            by_cases hiyi : i = iy
            · subst hiyi
              rw [if_pos rfl]
              rw [h8] at h10
              obtain rfl := Option.some.inj h10
              rw [splice_len hle2]; exact hrowsz
            · rw [if_neg hiyi]; exact hsz rowz (List.mem_of_getElem? h10)
          · have hg' : w'.heap[g]? = w.heap[g]? := S.heap g _ hl hnl (by
              intro h
              have := congrArg List.length h
              simp at this
              cases q with
              | nil => exact hq rfl
              | cons => simp at this)
            have key := set_kids q (p0 ++ [(i1, o1)]) rows' (fun i o => arr.getD (i * esz P e + o) undef) old (by simpa using S) (by simpa using B) hq hkids (by rw [hq']; exact h3) hle hpos
            rw [hq'] at key
            rw [← hlen]
            refine .own hl' (hg'.trans hgp) (by rw [hlen]; exact hn) hm ha ?_ key
            intro rowy hy
            obtain ⟨iy, hiy⟩ := List.mem_iff_getElem?.1 hy
            obtain ⟨x1, x2⟩ := x
            cases q' with
            | nil =>
              cases q with
              | nil => exact absurd rfl hq
              | cons y q => cases q <;> simp at hq'
            | cons y q'' =>
              rw [setL_more] at hiy
              obtain ⟨rowz, h10, rfl⟩ := modify_get hiy
              split
              · rw [List.length_modify]; exact hsz rowz (List.mem_of_getElem? h10)
              · exact hsz rowz (List.mem_of_getElem? h10)
      · rw [if_neg ho]
        exact S.move (hk i1 row2 o' c0 h6 h7) (hout i1 o' (by simp; exact fun h => ho h.symm))
    · rw [if_neg hi] at h5
      exact S.move (hk i' row2 o' c h6 h5) (hout i' o' (by simp; exact fun h _ => hi h.symm))
end Go.PV
