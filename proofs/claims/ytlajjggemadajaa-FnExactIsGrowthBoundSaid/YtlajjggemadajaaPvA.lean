/-
  A walk over pure values: the data, how a value in memory stands for them, and what keeps that.
  Conditions: none.
-/
import Derived.Orders
import Derived.Laws.AppendOwn
set_option linter.all false
namespace Go.PV

inductive C where
  | raw (v : Value)
  | sl (o : Option TypeId) (rows : List (List C))
  | fn (f : FuncId) (caps : List (Bool × List C))
  | pt (cs : List C)
  | dead

abbrev Path := List (Nat × Nat)

mutual
def era : C → C
  | .raw v => .raw v
  | .sl _ rows => .sl none (eraL rows)
  | .fn f caps => .fn f caps
  | .pt cs => .pt cs
  | .dead => .dead
def eraR : List C → List C
  | [] => []
  | c :: r => era c :: eraR r
def eraL : List (List C) → List (List C)
  | [] => []
  | r :: l => eraR r :: eraL l
end
theorem eraR_map (l : List C) : eraR l = l.map era := by
  induction l <;> simp_all [eraR]
theorem eraL_map (l : List (List C)) : eraL l = l.map eraR := by
  induction l <;> simp_all [eraL]

def scal : Value → Bool
  | .agg _ | .tuple _ | .slice .. => false
  | _ => true

/-- The cells of a type of this number. -/
def esz (P : Program) (e : TypeId) : Nat := ((P.info? e).map (·.size)).getD 0

/-- A value of so many cells: a struct's, or one cell alone. -/
def VShape (g : Bool) (v : Value) (n : Nat) : Prop :=
  if g then ∃ arr : Array Value, v = .agg arr ∧ arr.size = n else v.cells = #[v] ∧ n = 1

/-- Frozen data: all its memory lies in blocks of Z. -/
inductive Frz (Z : Nat → Prop) (w : World) : Value → C → Prop where
  | raw {v : Value} (h : scal v = true) : Frz Z w v (.raw v)
  | nil {a : Option Addr} {cap : Nat} : Frz Z w (.slice a 0 cap) (.sl none [])
  | sl {b off cap sz : Nat} {rows : List (List C)} (vs : Nat → Nat → Value) (hn : rows.length ≤ cap) (hz : Z b) (hsz : ∀ row ∈ rows, row.length = sz)
      (hc : ∀ i row o c, rows[i]? = some row → row[o]? = some c → w.cell? ⟨b, off + i * sz + o, none⟩ = some (vs i o))
      (hr : ∀ i row o c, rows[i]? = some row → row[o]? = some c → Frz Z w (vs i o) c) :
      Frz Z w (.slice (some ⟨b, off, none⟩) rows.length cap) (.sl none rows)
  | fn {f : FuncId} {caps : List (Bool × List C)} {vals : Array Value} (hn : vals.size = caps.length)
      (hs : ∀ i g cs, caps[i]? = some (g, cs) → VShape g (vals.getD i undef) cs.length)
      (hr : ∀ i g cs j c, caps[i]? = some (g, cs) → cs[j]? = some c → Frz Z w ((vals.getD i undef).cells.getD j undef) c) :
      Frz Z w (.func (.func f) #[] vals) (.fn f caps)
  | pt {b off : Nat} {cs : List C} (vs : Nat → Value) (hz : Z b) (hc : ∀ j c, cs[j]? = some c → w.cell? ⟨b, off + j, none⟩ = some (vs j)) (hr : ∀ j c, cs[j]? = some c → Frz Z w (vs j) c) :
      Frz Z w (.pointer (some ⟨b, off, none⟩)) (.pt cs)
  | dead {v : Value} (h : v.oneCell' = true) : Frz Z w v .dead

abbrev Lab := Nat → Option (Nat × Path)

/-- Data of which some slices are owned: the block of an owned slice bears the label of its place. -/
inductive Rep (P : Program) (Z : Nat → Prop) (L : Lab) (w : World) (s : Nat) : Path → Value → C → Prop where
  | frz {p : Path} {v : Value} {c : C} (h : Frz Z w v c) : Rep P Z L w s p v c
  | onil {p : Path} {e : TypeId} : Rep P Z L w s p (.slice none 0 0) (.sl (some e) [])
  | own {p : Path} {g cap : Nat} {arr : Array Value} {e : TypeId} {rows : List (List C)} (hl : L g = some (s, p)) (hg : w.heap[g]? = some (.cells arr e (0, 0)))
      (hn : rows.length ≤ cap) (hm : cap ≤ maxLen) (ha : arr.size = cap * esz P e) (hsz : ∀ row ∈ rows, row.length = esz P e)
      (hr : ∀ i row o c, rows[i]? = some row → row[o]? = some c → Rep P Z L w s (p ++ [(i, o)]) (arr.getD (i * esz P e + o) undef) c) :
      Rep P Z L w s p (.slice (some ⟨g, 0, none⟩) rows.length cap) (.sl (some e) rows)

/-- A whole value (a struct's cells, or one cell), frozen. -/
def FrzV (Z : Nat → Prop) (w : World) (g : Bool) (v : Value) (cs : List C) : Prop :=
  VShape g v cs.length ∧ ∀ j c, cs[j]? = some c → Frz Z w (v.cells.getD j undef) c
/-- A whole value, owned, as component i of place s. -/
def RepV (P : Program) (Z : Nat → Prop) (L : Lab) (w : World) (s i : Nat) (g : Bool) (v : Value) (cs : List C) : Prop :=
  VShape g v cs.length ∧ ∀ j c, cs[j]? = some c → Rep P Z L w s [(i, j)] (v.cells.getD j undef) c
/-- A block that holds these cells. -/
def BoxAt (P : Program) (Z : Nat → Prop) (L : Lab) (w : World) (s b : Nat) (cs : List C) : Prop :=
  L b = some (s, []) ∧ ∃ (arr : Array Value) (e : TypeId), w.heap[b]? = some (.cells arr e (0, 0)) ∧ arr.size = cs.length ∧
    ∀ j c, cs[j]? = some c → Rep P Z L w s [(0, j)] (arr.getD j undef) c

theorem cell_of_heap {w w' : World} {b : Nat} (h : w'.heap[b]? = w.heap[b]?) (o : Nat) : w'.cell? ⟨b, o, none⟩ = w.cell? ⟨b, o, none⟩ := by
  simp [World.cell?, h]

theorem Frz.mono {Z Z' : Nat → Prop} {w w' : World} {v : Value} {c : C} (h : Frz Z w v c) (hz : ∀ b, Z b → Z' b ∧ w'.heap[b]? = w.heap[b]?) : Frz Z' w' v c := by
  induction h with
  | raw h => exact .raw h
  | nil => exact .nil
  | sl vs hn hz0 hsz hc hr ih =>
    exact .sl vs hn (hz _ hz0).1 hsz (fun i row o c h1 h2 => (cell_of_heap (hz _ hz0).2 _).trans (hc i row o c h1 h2)) ih
  | fn hn hs hr ih => exact .fn hn hs ih
  | pt vs hz0 hc hr ih => exact .pt vs (hz _ hz0).1 (fun j c h => (cell_of_heap (hz _ hz0).2 _).trans (hc j c h)) ih
  | dead h => exact .dead h

theorem FrzV.mono {Z Z' : Nat → Prop} {w w' : World} {g : Bool} {v : Value} {cs : List C} (h : FrzV Z w g v cs) (hz : ∀ b, Z b → Z' b ∧ w'.heap[b]? = w.heap[b]?) : FrzV Z' w' g v cs :=
  ⟨h.1, fun j c hj => (h.2 j c hj).mono hz⟩

theorem Frz.era_self {Z : Nat → Prop} {w : World} {v : Value} {c : C} (h : Frz Z w v c) : Frz Z w v (era c) := by
  induction h with
  | raw h => exact .raw h
  | nil => exact .nil
  | @sl b off cap sz rows vs hn hz hsz hc hr ih =>
    simp only [era, eraL_map]
    have hget : ∀ (i : Nat) (row' : List C) (o : Nat) (c' : C), (rows.map eraR)[i]? = some row' → row'[o]? = some c' → ∃ (row : List C) (c : C), rows[i]? = some row ∧ row[o]? = some c ∧ c' = era c := by
      intro i row' o c' h1 h2
      rw [List.getElem?_map] at h1
      cases hri : rows[i]? with
      | none => simp [hri] at h1
      | some row =>
        simp [hri] at h1
        subst h1
        rw [eraR_map, List.getElem?_map] at h2
        cases hro : row[o]? with
        | none => simp [hro] at h2
        | some c => simp [hro] at h2; exact ⟨row, c, rfl, hro, h2.symm⟩
    have := Frz.sl (Z := Z) (w := w) (b := b) (off := off) (cap := cap) (sz := sz) (rows := rows.map eraR) vs (by simpa using hn) hz (by
        intro row' hr'
        obtain ⟨row, hrow, rfl⟩ := List.mem_map.1 hr'
        rw [eraR_map, List.length_map]; exact hsz row hrow)
      (fun i row' o c' h1 h2 => by obtain ⟨row, c, a, b', _⟩ := hget i row' o c' h1 h2; exact hc i row o c a b')
      (fun i row' o c' h1 h2 => by obtain ⟨row, c, a, b', rfl⟩ := hget i row' o c' h1 h2; exact ih i row o c a b')
    simpa using this
  | fn hn hs hr => exact .fn hn hs hr
  | pt vs hz hc hr => exact .pt vs hz hc hr
  | dead h => exact .dead h

/-- Owned data carried to another place, label by label. -/
theorem Rep.move {P : Program} {Z Z' : Nat → Prop} {L L' : Lab} {w w' : World} {s s' : Nat} {p : Path} {v : Value} {c : C} (h : Rep P Z L w s p v c) :
    ∀ (p' : Path), (∀ b, Z b → Z' b ∧ w'.heap[b]? = w.heap[b]?) → (∀ b q, L b = some (s, p ++ q) → L' b = some (s', p' ++ q) ∧ w'.heap[b]? = w.heap[b]?) → Rep P Z' L' w' s' p' v c := by
  induction h with
  | frz h => exact fun p' hz _ => .frz (h.mono hz)
  | onil => exact fun p' _ _ => .onil
  | @own p g cap arr e rows hl hg hn hm ha hsz hr ih =>
    intro p' hz hL
    have h0 := hL g [] (by simpa using hl)
    simp only [List.append_nil] at h0
    refine .own h0.1 (h0.2.trans hg) hn hm ha hsz fun i row o c h1 h2 => ?_
    refine ih i row o c h1 h2 (p' ++ [(i, o)]) hz fun b q hb => ?_
    have := hL b ((i, o) :: q) (by simpa using hb)
    simpa using this


theorem row_in {rows : List (List C)} {i o n sz cap : Nat} {row : List C} {c : C} (h1 : rows[i]? = some row) (h2 : row[o]? = some c) (hsz : ∀ row ∈ rows, row.length = sz) (hn : rows.length ≤ cap) (ha : n = cap * sz) : i * sz + o < n := by
  have hi : i < rows.length := (List.getElem?_eq_some_iff.1 h1).1
  have ho : o < row.length := (List.getElem?_eq_some_iff.1 h2).1
  rw [hsz row (List.mem_of_getElem? h1)] at ho
  subst ha
  calc i * sz + o < i * sz + sz := by omega
    _ = (i + 1) * sz := by rw [Nat.add_mul, Nat.one_mul]
    _ ≤ cap * sz := Nat.mul_le_mul_right _ (by omega)

/-- Owned data frozen. -/
theorem Rep.freeze {P : Program} {Z Z' : Nat → Prop} {L : Lab} {w w' : World} {s : Nat} {p : Path} {v : Value} {c : C} (h : Rep P Z L w s p v c) :
    (∀ b, Z b → Z' b ∧ w'.heap[b]? = w.heap[b]?) → (∀ b q, L b = some (s, p ++ q) → Z' b ∧ w'.heap[b]? = w.heap[b]?) → Frz Z' w' v (era c) := by
  induction h with
  | frz h => exact fun hz _ => (h.mono hz).era_self
  | onil => exact fun _ _ => by simpa [era, eraL] using Frz.nil
  | @own p g cap arr e rows hl hg hn hm ha hsz hr ih =>
    intro hz hL
    have h0 := hL g [] (by simpa using hl)
    have key : Frz Z' w' (.slice (some ⟨g, 0, none⟩) (rows.map eraR).length cap) (.sl none (rows.map eraR)) := by
      refine Frz.sl (sz := esz P e) (fun i o => arr.getD (i * esz P e + o) undef) (by simpa using hn) h0.1 ?_ ?_ ?_
      · intro row' hr'
        obtain ⟨row, hrow, rfl⟩ := List.mem_map.1 hr'
        rw [eraR_map, List.length_map]; exact hsz row hrow
      · intro i row' o c' h1 h2
        rw [List.getElem?_map] at h1
        cases hri : rows[i]? with
        | none => simp [hri] at h1
        | some row =>
          simp [hri] at h1
          subst h1
          rw [eraR_map, List.getElem?_map] at h2
          cases hro : row[o]? with
          | none => simp [hro] at h2
          | some c =>
            have hlt := row_in hri hro hsz hn ha
            simp [World.cell?, h0.2.trans hg, hlt]
      · intro i row' o c' h1 h2
        rw [List.getElem?_map] at h1
        cases hri : rows[i]? with
        | none => simp [hri] at h1
        | some row =>
          simp [hri] at h1
          subst h1
          rw [eraR_map, List.getElem?_map] at h2
          cases hro : row[o]? with
          | none => simp [hro] at h2
          | some c =>
            simp [hro] at h2
            subst h2
            refine ih i row o c hri hro hz fun b q hb => ?_
            exact hL b ((i, o) :: q) (by simpa using hb)
    rw [era, eraL_map]
    simpa using key

theorem scal_oneCell {v : Value} (h : scal v = true) : v.oneCell' = true := by
  cases v <;> simp_all [scal, Value.oneCell']
theorem Frz.oneCell {Z : Nat → Prop} {w : World} {v : Value} {c : C} (h : Frz Z w v c) : v.oneCell' = true := by
  cases h with
  | raw h => exact scal_oneCell h
  | nil => rfl
  | sl => rfl
  | fn => rfl
  | pt => rfl
  | dead h => exact h
theorem Rep.oneCell {P : Program} {Z : Nat → Prop} {L : Lab} {w : World} {s : Nat} {p : Path} {v : Value} {c : C} (h : Rep P Z L w s p v c) : v.oneCell' = true := by
  cases h with
  | frz h => exact h.oneCell
  | onil => rfl
  | own => rfl

/-! ### Places within data -/

/-- The cells from a place on, within its element. -/
def getRow : List (List C) → Path → Option (List C)
  | _, [] => none
  | rows, [(i, o)] => (rows[i]?).map (·.drop o)
  | rows, (i, o) :: q => match (rows[i]?).bind (·[o]?) with
    | some (.sl (some _) rows') => getRow rows' q
    | _ => none

mutual
/-- The cells from a place on replaced. -/
def setC : C → Path → List C → C
  | .sl t rows, q, cs => .sl t (setL rows q cs)
  | c, _, _ => c
def setR : List C → Nat → Path → List C → List C
  | [], _, _, _ => []
  | c :: r, 0, q, cs => setC c q cs :: r
  | c :: r, o + 1, q, cs => c :: setR r o q cs
def setL : List (List C) → Path → List C → List (List C)
  | [], _, _ => []
  | r :: l, (0, o) :: q, cs => (match q with
    | [] => r.take o ++ cs ++ r.drop (o + cs.length)
    | _ :: _ => setR r o q cs) :: l
  | r :: l, (i + 1, o) :: q, cs => r :: setL l ((i, o) :: q) cs
  | r :: l, [], _ => r :: l
end

end Go.PV
