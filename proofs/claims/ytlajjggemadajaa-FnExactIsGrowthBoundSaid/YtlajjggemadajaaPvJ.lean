/-
  A walk over pure values: addresses, slices, new memory.
  Conditions: none.
-/
import Derived.Test.YtlajjggemadajaaPvI
import Derived.Laws.OwnMore
set_option linter.all false
namespace Go.PV
variable {P : Program} {N : Nat} {w0 : World} {A : Nat → Prop} {I : List Nat}

theorem ref_rep {σ : St} {a : Act} {w : World} {L : Lab} (hR : Rel P N N w0 A I σ a w L) {s r : Nat} {q : Path} {tv : Value} {c : C} {cs : List C}
    (h : RelS P (Zof w0 A L w) L w (tmOf a) σ s tv (.ref r q none)) (hg : getRow (rows1 (σ r)) q = some (c :: cs)) : Rep P (Zof w0 A L w) L w r q tv c := by
  obtain ⟨hroot, h⟩ := h
  rcases rows1_cases (σ r) with h0 | ⟨cs0, h0⟩
  · rw [h0] at hg
    cases q with
    | nil => simp [getRow] at hg
    | cons y q => cases q <;> (obtain ⟨y1, y2⟩ := y; simp [getRow] at hg)
  · obtain ⟨rd, hk, hv, hbx⟩ := root_kids hR h0
    rw [h0] at hg
    rcases h with ⟨hnb, rfl, h3⟩ | ⟨q0, i, o, b, arr, e, rfl, hb, hl, hh, h3⟩
    · obtain ⟨row, h1, h2⟩ := getRow_one hg
      simp at h1
      subst h1
      simp at h2
      have h4 : cs0[0]? = some c := by rw [← h2]; rfl
      have := hk 0 cs0 0 c rfl h4
      rw [(hv hnb).2 0 (by have := (List.getElem?_eq_some_iff.1 h4).1; omega)] at this
      simp only at h3
      rw [h3]
      simpa using this
    · have hc : ∀ {row : List C}, c :: cs = row.drop o → row[o]? = some c := fun {row} h => by
        have : (row.drop o)[0]? = some c := by rw [← h]; rfl
        simpa using this
      by_cases hq : q0 = []
      · subst hq
        obtain ⟨b', arr', e', hn, hsz, _⟩ := hbx (hb rfl)
        obtain rfl := hR.inj _ _ _ hl hn.lab
        rw [hn.heap] at hh
        simp at hh
        obtain ⟨rfl, rfl⟩ := hh
        obtain ⟨row, h1, h2⟩ := getRow_one hg
        have := (hn.cell h1 (hc h2)).2
        simp only at h3
        simp [Array.getD_eq_getD_getElem?, h3.1] at this
        simpa using this
      · obtain ⟨b', arr', e', rows', row, hn, h1, h2⟩ := getRow_node q0 _ [] rd hk hq hg
        simp only [List.nil_append] at hn
        obtain rfl := hR.inj _ _ _ hl hn.lab
        rw [hn.heap] at hh
        simp at hh
        obtain ⟨rfl, rfl⟩ := hh
        have := (hn.cell h1 (hc h2)).2
        simp only at h3
        simp [Array.getD_eq_getD_getElem?, h3.1] at this
        simpa using this

/-- A slice that stands in a slot: what it is in memory. -/
theorem slOf_ok {σ : St} {a : Act} {w : World} {L : Lab} (hR : Rel P N N w0 A I σ a w L) {rt : Nat → SV} (hrt : ∀ r, rt r = σ r ∨ rt r = .u) {s : Nat} {tv : Value} {sv : SV} {o : Option TypeId} {rows : List (List C)}
    (h : RelS P (Zof w0 A L w) L w (tmOf a) σ s tv sv) (hs : slOf rt sv = some (o, rows)) :
    (o = none ∧ Frz (Zof w0 A L w) w tv (.sl none rows)) ∨ (∃ r q e, sv = .ref r q none ∧ o = some e ∧ Rep P (Zof w0 A L w) L w r q tv (.sl (some e) rows) ∧ ∃ cs, getRow (rows1 (σ r)) q = some (.sl (some e) rows :: cs)) := by
  unfold slOf at hs
  cases sv with
  | p v =>
    simp only [deref] at hs
    exfalso
    split at hs
    · rename_i o' rows' hd
      simp [cellsV] at hd
    · cases hs
  | d g cs =>
    simp only [deref] at hs
    split at hs
    · rename_i o' rows' hd
      simp at hd hs
      obtain ⟨rfl, rfl⟩ := hd
      obtain ⟨rfl, rfl⟩ := hs
      have h1 := h.2 0 _ rfl
      have h2 : tv.cells = #[tv] := h.1.1
      rw [h2] at h1
      simp at h1
      cases h1 with
      | nil => exact .inl ⟨rfl, .nil⟩
      | sl vs hn hz hsz hc hr => exact .inl ⟨rfl, .sl vs hn hz hsz hc hr⟩
    · cases hs
  | ref r q n =>
    simp only [deref] at hs
    split at hs
    · rename_i o' rows' hd
      simp at hs
      obtain ⟨rfl, rfl⟩ := hs
      split at hd
      · rename_i c cs hgr
        simp at hd
        subst hd
        rcases hrt r with e | e
        · rw [e] at hgr
          have hrep := ref_rep hR h hgr
          cases o' with
          | none =>
            cases hrep with
            | frz hf => exact .inl ⟨rfl, hf⟩
          | some e' => exact .inr ⟨r, q, e', rfl, rfl, hrep, cs, hgr⟩
        · rw [e] at hgr
          cases q with
          | nil => simp [getRow] at hgr
          | cons y q => cases q <;> (obtain ⟨y1, y2⟩ := y; simp [getRow, rows1] at hgr)
      · rename_i cs k _
        split at hd <;> simp at hd
      · simp at hd
    · cases hs
  | _ => simp [deref] at hs

theorem slE_spec {t e : TypeId} {sz : Nat} (h : slE P t = some (e, sz)) : ∃ i, P.underlying t = some (.slice e) ∧ P.info? e = some i ∧ i.size = sz ∧ esz P e = sz := by
  unfold slE at h
  cases hu : P.underlying t with
  | none => simp [hu] at h
  | some d =>
    cases d with
    | slice e' =>
      simp only [hu] at h
      cases hi : P.info? e' with
      | none => simp [hi] at h
      | some i =>
        simp [hi] at h
        obtain ⟨rfl, rfl⟩ := h
        exact ⟨i, rfl, hi, rfl, by simp [esz, hi]⟩
    | _ => simp [hu] at h

theorem run_indexAt {t e : TypeId} {sz : Nat} (h : slE P t = some (e, sz)) (w : World) (b off len cap : Nat) (k : IntKind) (n : Int) (h0 : 0 ≤ n) (h1 : n.toNat < len) :
    (Instr.indexAt t (.slice (some ⟨b, off, none⟩) len cap) (.int k n)).run P w = .ok (.pointer (some ⟨b, off + n.toNat * sz, none⟩)) w := by
  obtain ⟨i, hu, hi, hs, _⟩ := slE_spec h
  have hlt : n < (len : Int) := by omega
  simp [Instr.indexAt, asIntOf, Sem.run_bind, run_underlying hu, sizeOf, typeInfo, hi, hs, h0, hlt, Addr.add_lit]

/-- **Indexing is sound.** -/
theorem idx_ok {σ : St} {a : Act} {w : World} {L : Lab} (hR : Rel P N N w0 A I σ a w L) {rt : Nat → SV} (hrt : ∀ r, rt r = σ r ∨ rt r = .u) {t : TypeId} {x i : Operand} {K : SV → Prop}
    (h : idxK P rt t (evS σ x) (evS σ i) K) : ∃ v sv, (Instr.indexAt t (a.eval x) (a.eval i)).run P w = .ok v w ∧ K sv ∧ ∀ s, RelS P (Zof w0 A L w) L w (tmOf a) σ s v sv := by
  unfold idxK at h
  split at h
  · rename_i hi
    obtain ⟨h0, e, sz, o, rows, row, hE, hsl, hrow, hlen, hk⟩ := h
    have hx : noTup (evS σ x) = true := by
      cases hx : evS σ x <;> simp_all [noTup, slOf, deref]
    have hev := evS_ok hR 0 x hx
    rw [evS_p hR hi]
    rename_i k n
    obtain ⟨inf, hu, hinf, hsz, hesz⟩ := slE_spec hE
    have hlt : n.toNat < rows.length := (List.getElem?_eq_some_iff.1 hrow).1
    rcases slOf_ok hR hrt hev hsl with ⟨rfl, hf⟩ | ⟨r, q, e', hxr, rfl, hrep, cs, hgr⟩
    · generalize a.eval x = tv at hf hev ⊢
      cases hf with
      | nil => simp at hlt
      | @sl b off cap sz' rows vs hn hz hs hc hr =>
        have hs' := hs row (List.mem_of_getElem? hrow)
        refine ⟨_, _, run_indexAt hE w b off _ cap k n h0 hlt, hk, fun s => ⟨b, off + n.toNat * sz, hz, rfl, fun j c hj => ?_⟩⟩
        have := hc n.toNat row j c hrow hj
        rw [show sz' = sz from by omega] at this
        exact ⟨_, this, hr n.toNat row j c hrow hj⟩
    · rw [hxr] at hk hev
      generalize a.eval x = tv at hrep hev ⊢
      rcases hrep.node with ⟨_, rfl⟩ | ⟨b, arr, cap, rfl, h1, h2, h3, h4, hn⟩
      · simp at hlt
      · have he : esz P e' = sz := by have := h4 row (List.mem_of_getElem? hrow); omega
        refine ⟨_, _, run_indexAt hE w b 0 _ cap k n h0 hlt, hk, fun s => ⟨hev.1, q, n.toNat, 0, b, arr, e', rfl, ?_, hn.lab, hn.heap, by simp [he]⟩⟩
        intro hq
        subst hq
        simp [getRow] at hgr
  · exact h.elim

/-- **Lengths are sound.** -/
theorem slOf_slice {σ : St} {a : Act} {w : World} {L : Lab} (hR : Rel P N N w0 A I σ a w L) {rt : Nat → SV} (hrt : ∀ r, rt r = σ r ∨ rt r = .u) {s : Nat} {tv : Value} {sv : SV} {o : Option TypeId} {rows : List (List C)}
    (h : RelS P (Zof w0 A L w) L w (tmOf a) σ s tv sv) (hs : slOf rt sv = some (o, rows)) : ∃ ad cap, tv = .slice ad rows.length cap := by
  rcases slOf_ok hR hrt h hs with ⟨rfl, hf⟩ | ⟨r, q, e', _, rfl, hrep, _⟩
  · cases hf with
    | nil => exact ⟨_, _, rfl⟩
    | sl => exact ⟨_, _, rfl⟩
  · rcases hrep.node with ⟨rfl, rfl⟩ | ⟨b, arr, cap, rfl, _⟩
    · exact ⟨_, _, rfl⟩
    · exact ⟨_, _, rfl⟩

theorem bumpP_app (q0 : Path) (i o k : Nat) : bumpP (q0 ++ [(i, o)]) k = q0 ++ [(i, o + k)] := by
  simp [bumpP]

/-- **Fields' addresses are sound.** -/
theorem fld_ok {σ : St} {a : Act} {w : World} {L : Lab} (hR : Rel P N N w0 A I σ a w L) {t : TypeId} {k off : Nat} {x : Operand} {K : SV → Prop} (hf : fldO P t k = some off)
    (h : match evS σ x with | .fadr cs => K (.fadr (cs.drop off)) | .addr r q => K (.addr r (bumpP q off)) | _ => False) :
    ∃ v sv, (Instr.fieldAt t (a.eval x) k).run P w = .ok v w ∧ K sv ∧ ∀ s, RelS P (Zof w0 A L w) L w (tmOf a) σ s v sv := by
  have hx : noTup (evS σ x) = true := by cases hx : evS σ x <;> simp_all [noTup]
  have hev := evS_ok hR 0 x hx
  have hrun : ∀ b o, (Instr.fieldAt t (.pointer (some ⟨b, o, none⟩)) k).run P w = .ok (.pointer (some ⟨b, o + off, none⟩)) w := by
    intro b o
    unfold fldO at hf
    cases hu : P.underlying t with
    | none => simp [hu] at hf
    | some d =>
      cases d with
      | struct fs =>
        simp only [hu] at hf
        cases hk : fs[k]? with
        | none => simp [hk] at hf
        | some f =>
          simp only [hk] at hf
          cases hi : P.info? f.type with
          | none => simp [hi] at hf
          | some inf =>
            by_cases h0 : inf.size = 0
            · simp [hi, h0] at hf
            · simp [hi, h0] at hf
              subst hf
              simp [Instr.fieldAt, Sem.run_bind, run_underlying hu, hk, Instr.sureAddr, fieldPlace, sizeOf, typeInfo, hi, h0, Addr.add_lit]
      | _ => simp [hu] at hf
  cases hx' : evS σ x with
  | fadr cs =>
    rw [hx'] at h hev
    obtain ⟨b, o, hz, hv, hc⟩ := hev
    rw [hv]
    refine ⟨_, _, hrun b o, h, fun s => ⟨b, o + off, hz, rfl, fun j c hj => ?_⟩⟩
    obtain ⟨v, h1, h2⟩ := hc (off + j) c (drop_get hj)
    rw [Nat.add_assoc]
    exact ⟨v, h1, h2⟩
  | addr r q =>
    rw [hx'] at h hev
    obtain ⟨hroot, q0, i, o, b, arr, e, rfl, hb, hl, hh, hv⟩ := hev
    rw [hv]
    simp only [bumpP_app] at h
    refine ⟨_, _, hrun b _, h, fun s => ⟨hroot, q0, i, o + off, b, arr, e, rfl, hb, hl, hh, by rw [Nat.add_assoc]⟩⟩
  | _ => rw [hx'] at h; exact h.elim
end Go.PV
