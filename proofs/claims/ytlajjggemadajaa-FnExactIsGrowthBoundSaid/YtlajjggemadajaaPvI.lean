/-
  A walk over pure values: loads, addresses, calls' arguments.
  Conditions: none.
-/
import Derived.Test.YtlajjggemadajaaPvH
set_option linter.all false
namespace Go.PV
variable {P : Program} {N : Nat} {w0 : World} {A : Nat → Prop} {I : List Nat}

theorem oneCell_cells {v : Value} (h : v.oneCell' = true) : v.cells = #[v] := by
  cases v <;> simp_all [Value.oneCell', Value.cells]

/-- The values that lie there. -/
def cellsAt (w : World) (b off n : Nat) : List Value := (List.range n).map fun j => (w.cell? ⟨b, off + j, none⟩).getD undef
theorem cellsAt_get {w : World} {b off n j : Nat} {v : Value} (hj : j < n) (h : w.cell? ⟨b, off + j, none⟩ = some v) : (cellsAt w b off n)[j]? = some v := by
  simp [cellsAt, hj, h]
theorem cellsAt_len (w : World) (b off n : Nat) : (cellsAt w b off n).length = n := by simp [cellsAt]

def isAggD : TypeDesc → Bool
  | .struct _ | .array _ _ => true
  | _ => false
theorem tyC_spec {t : TypeId} {g : Bool} {n : Nat} (h : tyC P t = some (g, n)) : ∃ d i, P.underlying t = some d ∧ P.info? t = some i ∧ i.size = n ∧ isAggD d = g := by
  unfold tyC at h
  cases hu : P.underlying t with
  | none => simp [hu] at h
  | some d =>
    cases hi : P.info? t with
    | none => rw [hu, hi] at h; cases d <;> simp at h
    | some i =>
      rw [hu, hi] at h
      refine ⟨d, i, rfl, rfl, ?_⟩
      cases d <;> simp at h <;> obtain ⟨rfl, rfl⟩ := h <;> exact ⟨rfl, rfl⟩

theorem run_isAgg {t : TypeId} {d : TypeDesc} (h : P.underlying t = some d) (w : World) : (isAgg t).run P w = .ok (isAggD d) w := by
  unfold isAgg
  rw [Sem.run_bind, run_underlying h w]
  cases d <;> rfl

theorem run_loadVar {t : TypeId} {g : Bool} {n : Nat} (ht : tyC P t = some (g, n)) (hg : g = false → n = 1) (w : World) (b off : Nat)
    (hc : ∀ j, j < n → ∃ v, w.cell? ⟨b, off + j, none⟩ = some v) : (loadVar t ⟨b, off, none⟩).run P w = .ok (mkV g (cellsAt w b off n)) w := by
  obtain ⟨d, i, hu, hi, hs, hd⟩ := tyC_spec ht
  unfold loadVar
  rw [Sem.run_bind, run_isAgg hu, hd]
  simp only [Result.andThen_ok]
  cases g with
  | true =>
    have := run_loadCells_list (P := P) w ⟨b, off, none⟩ (cellsAt w b off n) (fun j v hj => by
      have hjn : j < n := by
        have := (List.getElem?_eq_some_iff.1 hj).1
        rwa [cellsAt_len] at this
      obtain ⟨v', hv'⟩ := hc j hjn
      rw [cellsAt_get hjn hv'] at hj
      rw [Addr.add_lit, hv']; exact hj)
    rw [cellsAt_len] at this
    simp [sizeOf, typeInfo, hi, hs, Sem.run_bind, this, mkV]
  | false =>
    obtain ⟨v, hv⟩ := hc 0 (by rw [hg rfl]; omega)
    simp only [Bool.false_eq_true, if_false, run_load]
    rw [Nat.add_zero] at hv
    rw [hv, hg rfl]
    simp [mkV, cellsAt, hv]

theorem mkV_shape {g : Bool} {vs : List Value} (h1 : ∀ v ∈ vs, v.oneCell' = true) (hg : g = false → vs.length = 1) : VShape g (mkV g vs) vs.length ∧ (mkV g vs).cells = vs.toArray := by
  cases g with
  | true => exact ⟨⟨vs.toArray, rfl, by simp⟩, rfl⟩
  | false =>
    match vs, hg rfl with
    | [v], _ =>
      have := oneCell_cells (h1 v (by simp))
      exact ⟨⟨this, rfl⟩, this⟩

theorem raws_get {cs : List C} {vs : List Value} (h : raws cs = some vs) : cs = vs.map .raw := by
  induction cs generalizing vs with
  | nil => simp [raws] at h; subst h; rfl
  | cons c r ih =>
    cases c with
    | raw v =>
      simp only [raws] at h
      cases hr : raws r with
      | none => simp [hr] at h
      | some vs' => simp [hr] at h; subst h; simp [ih hr]
    | _ => simp [raws] at h

theorem Frz.raw_eq {Z : Nat → Prop} {w : World} {v v' : Value} (h : Frz Z w v (.raw v')) : v = v' := by cases h; rfl
theorem Rep.raw_eq {Z : Nat → Prop} {L : Lab} {w : World} {s : Nat} {p : Path} {v v' : Value} (h : Rep P Z L w s p v (.raw v')) : v = v' := by
  cases h with
  | frz h => exact h.raw_eq
theorem Rep.to_frz {Z : Nat → Prop} {L : Lab} {w : World} {s : Nat} {p : Path} {v : Value} {c : C} (h : Rep P Z L w s p v c) (hc : frC c = true) : Frz Z w v c := by
  cases h with
  | frz h => exact h
  | onil => simp [frC] at hc
  | own => simp [frC] at hc

theorem getD_mkV {g : Bool} {vs : List Value} (h1 : ∀ v ∈ vs, v.oneCell' = true) (hg : g = false → vs.length = 1) (j : Nat) : (mkV g vs).cells.getD j undef = (vs[j]?).getD undef := by
  rw [(mkV_shape h1 hg).2]; simp

theorem mkD_ok {Z : Nat → Prop} {L : Lab} {w : World} {tm : Nat → Value} {σ : St} {s : Nat} {g : Bool} {cs : List C} {vs : List Value} (hl : vs.length = cs.length) (hg : g = false → vs.length = 1)
    (hf : ∀ (j : Nat) (c : C), cs[j]? = some c → Frz Z w ((vs[j]?).getD undef) c) : RelS P Z L w tm σ s (mkV g vs) (mkD g cs) := by
  have h1 : ∀ v ∈ vs, v.oneCell' = true := by
    intro v hv
    obtain ⟨j, hj⟩ := List.mem_iff_getElem?.1 hv
    have hlt : j < cs.length := hl ▸ (List.getElem?_eq_some_iff.1 hj).1
    have := (hf j _ (List.getElem?_eq_getElem hlt)).oneCell
    rw [hj] at this
    exact this
  unfold mkD
  cases hr : raws cs with
  | some vs' =>
    simp only []
    show mkV g vs = mkV g vs'
    congr 1
    apply List.ext_getElem?
    intro j
    have := raws_get hr
    subst this
    simp only [List.length_map] at hl
    cases hj : vs'[j]? with
    | none =>
      have := List.getElem?_eq_none_iff.1 hj
      exact List.getElem?_eq_none (by omega)
    | some v =>
      have h2 := (hf j (.raw v) (by simp [hj])).raw_eq
      have hlt : j < vs.length := by have := (List.getElem?_eq_some_iff.1 hj).1; omega
      rw [List.getElem?_eq_getElem hlt] at h2 ⊢
      simp at h2
      rw [h2]
  | none =>
    refine ⟨hl ▸ (mkV_shape h1 hg).1, fun j c hj => ?_⟩
    rw [getD_mkV h1 hg]
    exact hf j c hj

/-- The cells of a node, read. -/
theorem NodeB.cell {Z : Nat → Prop} {L : Lab} {w : World} {r : Nat} {q : Path} {b : Nat} {arr : Array Value} {e : TypeId} {rows : List (List C)} (h : NodeB P Z L w r q b arr e rows)
    {i o : Nat} {row : List C} {c : C} (h1 : rows[i]? = some row) (h2 : row[o]? = some c) :
    w.cell? ⟨b, i * esz P e + o, none⟩ = some (arr.getD (i * esz P e + o) undef) ∧ Rep P Z L w r (q ++ [(i, o)]) (arr.getD (i * esz P e + o) undef) c := by
  have hlt := h.inb i row o h1 (List.getElem?_eq_some_iff.1 h2).1
  refine ⟨?_, h.kids i row o c h1 h2⟩
  simp [World.cell?, h.heap, hlt]

theorem take_get {α : Type} {l : List α} {n j : Nat} {c : α} (h : (l.take n)[j]? = some c) : j < n ∧ l[j]? = some c := by
  rw [List.getElem?_take] at h
  split at h
  · exact ⟨by assumption, h⟩
  · cases h
theorem drop_get {α : Type} {l : List α} {o j : Nat} {c : α} (h : (l.drop o)[j]? = some c) : l[o + j]? = some c := by
  rwa [List.getElem?_drop] at h

/-- **Loads are sound.** -/
theorem load_ok {σ : St} {a : Act} {w : World} {L : Lab} (hR : Rel P N N w0 A I σ a w L) {rt : Nat → SV} (hrt : ∀ r, rt r = σ r ∨ rt r = .u) {t : TypeId} {x : Operand} {K : SV → Prop}
    (h : loadK P rt t (evS σ x) K) : ∃ v sv, (Instr.loadAt t (a.eval x)).run P w = .ok v w ∧ K sv ∧ ∀ s, RelS P (Zof w0 A L w) L w (tmOf a) σ s v sv := by
  obtain ⟨g, n, ht, hg, h⟩ := h
  have hx : noTup (evS σ x) = true := by cases hx : evS σ x <;> simp_all [noTup]
  have he := evS_ok hR 0 x hx
  cases hx' : evS σ x with
  | fadr cs =>
    rw [hx'] at he h
    obtain ⟨b, off, hz, hv, hc⟩ := he
    obtain ⟨hn, hk⟩ := h
    rw [hv]
    have hrun := run_loadVar ht hg w b off (fun j hj => by
      obtain ⟨v, h1, _⟩ := hc j _ (List.getElem?_eq_getElem (by omega : j < cs.length)); exact ⟨v, h1⟩)
    refine ⟨_, _, by simpa [Instr.loadAt, Instr.sureAddr] using hrun, hk, fun s => mkD_ok (by simp [cellsAt_len, hn]) (fun h => by rw [cellsAt_len]; exact hg h) fun j c hj => ?_⟩
    obtain ⟨hjn, hj'⟩ := take_get hj
    obtain ⟨v, h1, h2⟩ := hc j c hj'
    rw [cellsAt_get hjn h1]
    exact h2
  | addr r q =>
    rw [hx'] at he h
    obtain ⟨cs, hrow, hn, hk⟩ := h
    rcases hrt r with e | e
    · rw [e] at hrow
      obtain ⟨q0, i, o, b, arr, e', rows, row, rfl, hnode, h1, rfl, hv⟩ := addr_cells hR he hrow
      rw [hv]
      have hcell : ∀ j, j < n → ∀ c, (row.drop o)[j]? = some c → w.cell? ⟨b, i * esz P e' + o + j, none⟩ = some (arr.getD (i * esz P e' + (o + j)) undef) ∧ Rep P (Zof w0 A L w) L w r (q0 ++ [(i, o + j)]) (arr.getD (i * esz P e' + (o + j)) undef) c := by
        intro j _ c hj
        have := hnode.cell h1 (drop_get hj)
        rw [Nat.add_assoc]
        exact this
      have hex : ∀ j, j < n → ∃ c, (row.drop o)[j]? = some c := fun j hj => ⟨_, List.getElem?_eq_getElem (by omega : j < (row.drop o).length)⟩
      have hrun := run_loadVar ht hg w b (i * esz P e' + o) (fun j hj => by
        obtain ⟨c, hc⟩ := hex j hj
        exact ⟨_, (hcell j hj c hc).1⟩)
      have hvs : ∀ j c, ((row.drop o).take n)[j]? = some c → (cellsAt w b (i * esz P e' + o) n)[j]? = some (arr.getD (i * esz P e' + (o + j)) undef) ∧ Rep P (Zof w0 A L w) L w r (q0 ++ [(i, o + j)]) (arr.getD (i * esz P e' + (o + j)) undef) c := by
        intro j c hj
        obtain ⟨hjn, hj'⟩ := take_get hj
        obtain ⟨h2, h3⟩ := hcell j hjn c hj'
        exact ⟨cellsAt_get hjn h2, h3⟩
      refine ⟨_, _, by simpa [Instr.loadAt, Instr.sureAddr] using hrun, hk, fun s => ?_⟩
      have hfr : ∀ cs', cs' = (row.drop o).take n → (∀ c ∈ cs', frC c = true) → RelS P (Zof w0 A L w) L w (tmOf a) σ s (mkV g (cellsAt w b (i * esz P e' + o) n)) (mkD g cs') := by
        rintro cs' rfl hfr
        refine mkD_ok (by rw [cellsAt_len, List.length_take]; omega) (fun h => by rw [cellsAt_len]; exact hg h) fun j c hj => ?_
        obtain ⟨h2, h3⟩ := hvs j c hj
        rw [h2]
        exact h3.to_frz (hfr c (List.mem_of_getElem? hj))
      cases hr : raws ((row.drop o).take n) with
      | some vs =>
        have := hfr _ rfl (by rw [raws_get hr]; intro c hc; obtain ⟨v, _, rfl⟩ := List.mem_map.1 hc; rfl)
        unfold mkD at this
        rw [hr] at this
        exact this
      | none =>
        simp only []
        by_cases hf : frR ((row.drop o).take n) = true
        · rw [if_pos hf]
          have hall : ∀ l : List C, frR l = true → ∀ c ∈ l, frC c = true := by
            intro l
            induction l with
            | nil => simp
            | cons c l ih => intro h c' hc'; simp [frR] at h; rcases List.mem_cons.1 hc' with rfl | h'; exact h.1; exact ih h.2 c' h'
          have := hfr _ rfl (hall _ hf)
          unfold mkD at this
          rw [hr] at this
          exact this
        · rw [if_neg hf]
          by_cases hnd : nd ((row.drop o).take n) = true
          case neg => rw [if_neg hnd]; trivial
          rw [if_pos hnd]
          obtain ⟨hroot, q0', i', o', b', arr', e'', hq, hbx, hl, hh, hv2⟩ := he
          obtain ⟨rfl, hio⟩ := List.append_inj' hq rfl
          simp at hio
          obtain ⟨rfl, rfl⟩ := hio
          refine ⟨hroot, .inr ⟨q0, i, o, b, arr, e', rfl, hbx, hnode.lab, hnode.heap, ?_⟩⟩
          cases g with
          | true =>
            simp only [if_true]
            simp only [mkV, if_true]
            congr 1
            apply Array.ext'
            apply List.ext_getElem?
            intro j
            have hin : ∀ j, j < n → i * esz P e' + (o + j) < arr.size := fun j hj => by
              obtain ⟨c, hc⟩ := hex j hj
              exact hnode.inb i row (o + j) h1 (List.getElem?_eq_some_iff.1 (drop_get hc)).1
            by_cases hj : j < n
            · obtain ⟨c, hc⟩ := hex j hj
              have h2 := (hcell j hj c hc).1
              have h3 := hin j hj
              have hsz : i * esz P e' + o + n ≤ arr.size := by have := hin (n - 1) (by omega); omega
              rw [cellsAt_get hj h2]
              rw [Array.toList_extract, List.getElem?_take, List.getElem?_drop, if_pos (by omega)]
              rw [Nat.add_assoc]
              simp [h3]
            · rw [List.getElem?_eq_none (by rw [cellsAt_len]; omega)]
              rw [List.getElem?_eq_none]
              rw [Array.toList_extract]
              simp
              omega
          | false =>
            have hn1 := hg rfl
            subst hn1
            obtain ⟨c, hc⟩ := hex 0 (by omega)
            have h2 := (hcell 0 (by omega) c hc).1
            have h3 := hnode.inb i row o h1 (by have := (List.getElem?_eq_some_iff.1 (drop_get hc)).1; omega)
            simp only [Nat.add_zero] at h2
            have h4 := (hcell 0 (by omega) c hc).2
            simp only [Nat.add_zero] at h4
            have hsc : scal (arr.getD (i * esz P e' + o) undef) = false := by
              have hc1 : (row.drop o).take 1 = [c] := by
                cases hd : row.drop o with
                | nil => rw [hd] at hc; simp at hc
                | cons x l => rw [hd] at hc; simp at hc; subst hc; rfl
              rw [hc1] at hr hf hnd
              cases c with
              | raw v => simp [raws] at hr
              | dead => simp [nd] at hnd
              | fn f caps => simp [frR, frC] at hf
              | pt cs => simp [frR, frC] at hf
              | sl ot rows' =>
                generalize arr.getD (i * esz P e' + o) undef = tv at h4
                cases h4 with
                | frz h =>
                  cases h with
                  | nil => rfl
                  | sl => rfl
                | onil => rfl
                | own => rfl
            have e1 : mkV false (cellsAt w b (i * esz P e' + o) 1) = arr.getD (i * esz P e' + o) undef := by simp [mkV, cellsAt, h2]
            simp only [Bool.false_eq_true, if_false]
            rw [e1]
            refine ⟨by simp [h3], hsc⟩
    · rw [e] at hrow
      cases q with
      | nil => simp [getRow] at hrow
      | cons y q => cases q <;> (obtain ⟨y1, y2⟩ := y; simp [getRow, rows1] at hrow)
  | _ => rw [hx'] at h; exact h.elim
end Go.PV
