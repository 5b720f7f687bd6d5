/-
  A walk over pure values: appends are sound.
  Conditions: none.
-/
import Derived.Test.YtlajjggemadajaaPvU
set_option linter.all false
namespace Go.PV
variable {P : Program} {N : Nat} {w0 : World} {A : Nat → Prop} {I : List Nat}

/-- Some roots leave; the place N takes what it may. -/
structure Leave (N : Nat) (gn : Nat → Prop) (L : Lab) (w : World) (L1 : Lab) (w' : World) : Prop where
  os : w'.os = w.os
  tape : w'.tape = w.tape
  output : w'.output = w.output
  size : w.heap.size ≤ w'.heap.size
  blk : ∀ b, b < w.heap.size → (∀ s p, L b = some (s, p) → ¬ gn s) → w'.heap[b]? = w.heap[b]?
  keep : ∀ b s p, L b = some (s, p) → ¬ gn s → L1 b = some (s, p)
  zer : ∀ b, b < w.heap.size → L b = none → L1 b = none
  lab : ∀ b l, L1 b = some l → b < w'.heap.size ∧ ((L b = some l ∧ ¬ gn l.1) ∨ (l.1 = N ∧ (w.heap.size ≤ b ∨ ∃ s p, L b = some (s, p) ∧ p ≠ [])))
  inj : ∀ b b' l, L1 b = some l → L1 b' = some l → b = b'

theorem Rel.leave {σ σ' : St} {a : Act} {w w' : World} {L L1 : Lab} {gn : Nat → Prop} (hR : Rel P N N w0 A I σ a w L) (V : Leave N gn L w L1 w')
    (hσ : ∀ s, σ' s = .u ∨ (σ' s = σ s ∧ ¬ gn s ∧ ∀ x, refOf (σ s) = some x → ¬ gn x)) (hroot : ∀ x, isRoot (σ x) = true → ¬ gn x → σ' x = σ x) : Rel P N (N + 1) w0 A I σ' a w' L1 := by
  have hsz := hR.ev.size
  have hz : ∀ b, Zof w0 A L w b → Zof w0 A L1 w' b ∧ w'.heap[b]? = w.heap[b]? := fun b ⟨h1, h2, h3⟩ =>
    ⟨⟨V.zer b h2 h1, by have := V.size; omega, h3⟩, V.blk b h2 fun s p h => by rw [h1] at h; cases h⟩
  have hlab : ∀ s, ¬ gn s → ∀ b q, L b = some (s, q) → L1 b = some (s, q) ∧ w'.heap[b]? = w.heap[b]? := fun s hs b q hb =>
    ⟨V.keep b s q hb hs, V.blk b (hR.lab b _ hb).1 fun s' p' h => by rw [hb] at h; simp at h; rw [← h.1]; exact hs⟩
  refine ⟨hR.dfr, hR.siz, ⟨V.os.trans hR.ev.os, V.tape.trans hR.ev.tape, V.output.trans hR.ev.output, Nat.le_trans hsz V.size, fun b h1 h2 => ?_⟩, V.inj, fun b l h => ?_, fun s hs => ?_, hR.hA, fun s => ?_⟩
  · refine (V.blk b (by omega) fun s p h _ => ?_).trans (hR.ev.block b h1 h2)
    rcases (hR.lab b _ h).2.1 with h3 | ⟨h3, _⟩
    · omega
    · exact h2 h3
  · obtain ⟨h1, h2⟩ := V.lab b l h
    refine ⟨h1, ?_⟩
    rcases h2 with ⟨h2, _⟩ | ⟨h2, h3⟩
    · have := hR.lab b l h2; exact ⟨this.2.1, by omega⟩
    · refine ⟨?_, by omega⟩
      rcases h3 with h3 | ⟨s, p, h3, h4⟩
      · exact .inl (by omega)
      · rcases (hR.lab b _ h3).2.1 with h5 | ⟨_, h5⟩
        · exact .inl h5
        · exact absurd h5 h4
  · rcases hσ s with h | ⟨h, _⟩
    · exact h
    · rw [h, hR.out s hs]
  · rcases hσ s with h | ⟨h, hg, hx⟩
    · rw [h]; trivial
    · rw [h]
      refine (hR.slot s).keep hz (fun b q _ hb => hlab s hg b q hb) fun r hr hrt => ?_
      have hgr := hx r hr
      have e := hroot r hrt hgr
      exact ⟨hlab r hgr, rfl, by rw [e]; exact hrt, by rw [e]⟩

/-- Where a slice's elements lie. -/
theorem src_ok {σ : St} {a : Act} {w : World} {L : Lab} (hR : Rel P N N w0 A I σ a w L) {s : Nat} {tv : Value} {sv : SV} {rows : List (List C)} {mv : Option Nat} (h : RelS P (Zof w0 A L w) L w (tmOf a) σ s tv sv)
    (hs : addRows σ sv = some (rows, mv)) :
    (mv = none ∨ ∃ m e, mv = some m ∧ σ m = .ov false [.sl (some e) rows]) ∧
    ((rows = [] ∧ ∃ ad cap, tv = .slice ad 0 cap) ∨ ∃ (b off cap sz : Nat) (vs : Nat → Nat → Value), tv = .slice (some ⟨b, off, none⟩) rows.length cap ∧ (∀ row ∈ rows, row.length = sz) ∧
      ∀ (i : Nat) (row : List C) (o : Nat) (c : C), rows[i]? = some row → row[o]? = some c → w.cell? ⟨b, off + i * sz + o, none⟩ = some (vs i o) ∧
        ((mv = none ∧ Frz (Zof w0 A L w) w (vs i o) c) ∨ ∃ m, mv = some m ∧ Rep P (Zof w0 A L w) L w m [(0, 0), (i, o)] (vs i o) c)) := by
  have hrt : ∀ r, σ r = σ r ∨ σ r = .u := fun _ => .inl rfl
  unfold addRows at hs
  split at hs
  · rename_i rows' hsl
    simp at hs
    obtain ⟨rfl, rfl⟩ := hs
    refine ⟨.inl rfl, ?_⟩
    rcases slOf_ok hR hrt h hsl with ⟨_, hf⟩ | ⟨_, _, _, _, h1, _⟩
    · rcases hf.sl_inv with h1 | ⟨b, off, cap, sz, vs, h1, h2, h3, h4, h5, h6⟩
      · exact .inl h1
      · exact .inr ⟨b, off, cap, sz, vs, h1, h4, fun i row o c a b => ⟨h5 i row o c a b, .inl ⟨rfl, h6 i row o c a b⟩⟩⟩
    · cases h1
  · rename_i e rows' hsl
    split at hs
    · rename_i r
      split at hs
      · rename_i e' rows'' hσr
        simp at hs
        obtain ⟨rfl, rfl⟩ := hs
        rcases slOf_ok hR hrt h hsl with ⟨h1, _⟩ | ⟨r', q', e2, h1, h2, hrep, cs, hg⟩
        · cases h1
        · simp at h1
          obtain ⟨rfl, rfl⟩ := h1
          rw [hσr] at hg
          simp [rows1, getRow] at hg
          obtain ⟨⟨rfl, rfl⟩, rfl⟩ := hg
          refine ⟨.inr ⟨r, e', rfl, hσr⟩, ?_⟩
          rcases hrep.node with ⟨rfl, rfl⟩ | ⟨b, arr, cap, rfl, h3, h4, h5, h6, hn⟩
          · exact .inl ⟨rfl, _, _, rfl⟩
          · refine .inr ⟨b, 0, cap, esz P e', fun i o => arr.getD (i * esz P e' + o) undef, rfl, h6, fun i row o c a b => ?_⟩
            have := hn.cell a b
            exact ⟨by simpa using this.1, .inr ⟨r, rfl, by simpa using this.2⟩⟩
      · cases hs
    · cases hs
  · cases hs

/-- The cells of elements, in a row. -/
def flat (sz m : Nat) (vs : Nat → Nat → Value) : List Value := (List.range (m * sz)).map fun k => vs (k / sz) (k % sz)
theorem flat_len (sz m : Nat) (vs : Nat → Nat → Value) : (flat sz m vs).length = m * sz := by simp [flat]
theorem flat_get {sz m i o : Nat} {vs : Nat → Nat → Value} (hi : i < m) (ho : o < sz) : (flat sz m vs)[i * sz + o]? = some (vs i o) := by
  have hlt : i * sz + o < m * sz := by
    calc i * sz + o < i * sz + sz := by omega
      _ = (i + 1) * sz := by rw [Nat.add_mul, Nat.one_mul]
      _ ≤ m * sz := Nat.mul_le_mul_right _ (by omega)
  have h1 : (i * sz + o) / sz = i := by
    rw [Nat.mul_comm, Nat.mul_add_div (by omega), Nat.div_eq_of_lt ho, Nat.add_zero]
  have h2 : (i * sz + o) % sz = o := by rw [Nat.mul_comm, Nat.mul_add_mod, Nat.mod_eq_of_lt ho]
  simp [flat, hlt, h1, h2]
theorem flat_inv {sz m k : Nat} {vs : Nat → Nat → Value} {v : Value} (h : (flat sz m vs)[k]? = some v) : ∃ i o, i < m ∧ o < sz ∧ k = i * sz + o ∧ v = vs i o := by
  have hk : k < m * sz := by have := (List.getElem?_eq_some_iff.1 h).1; rwa [flat_len] at this
  have hsz : 0 < sz := by
    rcases Nat.eq_zero_or_pos sz with h | h
    · subst h; simp at hk
    · exact h
  refine ⟨k / sz, k % sz, (Nat.div_lt_iff_lt_mul hsz).2 hk, Nat.mod_lt _ hsz, ?_, ?_⟩
  · have := Nat.div_add_mod k sz; rw [Nat.mul_comm] at this; omega
  · simp [flat, hk] at h; exact h.symm

/-- The labels behind an append: of r's elements (the first n) and of m's (behind them). -/
def apL (N : Nat) (L : Lab) (r mv : Option Nat) (n g : Nat) : Lab := fun b => if b = g then some (N, [(0, 0)]) else match L b with
  | some (s, p) => if r = some s then (match p with
      | (0, 0) :: (i, o) :: p' => if i < n then some (N, (0, 0) :: (i, o) :: p') else none
      | _ => none)
    else if mv = some s then (match p with
      | (0, 0) :: (i, o) :: p' => some (N, (0, 0) :: (n + i, o) :: p')
      | _ => none)
    else some (s, p)
  | none => none

theorem apL_some {L : Lab} {r mv : Option Nat} {n g b : Nat} {l : Nat × Path} (h : apL N L r mv n g b = some l) :
    (b = g ∧ l = (N, [(0, 0)])) ∨ (b ≠ g ∧ ∃ s i o p', r = some s ∧ L b = some (s, (0, 0) :: (i, o) :: p') ∧ i < n ∧ l = (N, (0, 0) :: (i, o) :: p')) ∨
    (b ≠ g ∧ ∃ s i o p', mv = some s ∧ L b = some (s, (0, 0) :: (i, o) :: p') ∧ l = (N, (0, 0) :: (n + i, o) :: p')) ∨ (b ≠ g ∧ L b = some l ∧ r ≠ some l.1 ∧ mv ≠ some l.1) := by
  unfold apL at h
  split at h
  · rename_i hb; exact .inl ⟨hb, (Option.some.inj h).symm⟩
  · rename_i hb
    right
    split at h
    · rename_i s p hl
      split at h
      · rename_i hr
        split at h
        · rename_i i o p'
          split at h
          · rename_i hi; exact .inl ⟨hb, s, i, o, p', hr, hl, hi, (Option.some.inj h).symm⟩
          · cases h
        · cases h
      · rename_i hr
        split at h
        · rename_i hm
          split at h
          · rename_i i o p'; exact .inr (.inl ⟨hb, s, i, o, p', hm, hl, (Option.some.inj h).symm⟩)
          · cases h
        · rename_i hm
          obtain rfl := Option.some.inj h
          exact .inr (.inr ⟨hb, hl, hr, hm⟩)
    · cases h

/-- Behind an append, whatever it did. -/
theorem ap_fin {σ σ' : St} {a : Act} {w w' : World} {L : Lab} (hR : Rel P N N w0 A I σ a w L) {r mv : Option Nat} {rows rows2 : List (List C)} {g cap : Nat} {arr : Array Value} {e : TypeId} (hne : mv = none ∨ mv ≠ r)
    (hos : w'.os = w.os) (htp : w'.tape = w.tape) (hou : w'.output = w.output) (hsz : w.heap.size ≤ w'.heap.size) (hgl : g < w'.heap.size)
    (hg : w.heap.size ≤ g ∨ ∃ s, r = some s ∧ L g = some (s, [(0, 0)])) (hblk : ∀ b, b < w.heap.size → b ≠ g → w'.heap[b]? = w.heap[b]?)
    (harr : w'.heap[g]? = some (.cells arr e (0, 0))) (hcap : rows.length + rows2.length ≤ cap) (hm : cap ≤ maxLen) (ha : arr.size = cap * esz P e) (hu : ∀ row ∈ rows, row.length = esz P e) (hu2 : ∀ row ∈ rows2, row.length = esz P e)
    (hk1 : ∀ (i : Nat) (row : List C) (o : Nat) (c : C), rows[i]? = some row → row[o]? = some c → ∃ s, r = some s ∧ Rep P (Zof w0 A L w) L w s [(0, 0), (i, o)] (arr.getD (i * esz P e + o) undef) c)
    (hk2 : ∀ (i : Nat) (row : List C) (o : Nat) (c : C), rows2[i]? = some row → row[o]? = some c →
      (Frz (Zof w0 A L w) w (arr.getD ((rows.length + i) * esz P e + o) undef) c) ∨ ∃ s, mv = some s ∧ Rep P (Zof w0 A L w) L w s [(0, 0), (i, o)] (arr.getD ((rows.length + i) * esz P e + o) undef) c)
    (hσ : ∀ s, σ' s = .u ∨ (σ' s = σ s ∧ ¬ (r = some s ∨ mv = some s) ∧ ∀ x, refOf (σ s) = some x → ¬ (r = some x ∨ mv = some x))) (hroot : ∀ x, isRoot (σ x) = true → ¬ (r = some x ∨ mv = some x) → σ' x = σ x) :
    ∃ L1, Rel P N (N + 1) w0 A I σ' a w' L1 ∧ RelS P (Zof w0 A L1 w') L1 w' (tmOf a) σ' N (.slice (some ⟨g, 0, none⟩) (rows.length + rows2.length) cap) (.ov false [.sl (some e) (rows ++ rows2)]) := by
  have hlt : ∀ b l, L b = some l → b < w.heap.size ∧ l.1 < N := fun b l h => ⟨(hR.lab b l h).1, (hR.lab b l h).2.2⟩
  have hgx : ∀ s p, L g = some (s, p) → r = some s := by
    intro s p h
    rcases hg with h1 | ⟨s', h1, h2⟩
    · have := (hlt g _ h).1; omega
    · rw [h2] at h; simp at h; rw [← h.1]; exact h1
  have V : Leave N (fun s => r = some s ∨ mv = some s) L w (apL N L r mv rows.length g) w' := by
    refine ⟨hos, htp, hou, hsz, fun b hb hn => hblk b hb ?_, fun b s p hb hn => ?_, fun b hb hn => ?_, fun b l hl => ?_, fun b b' l h1 h2 => ?_⟩
    · rintro rfl
      rcases hg with h1 | ⟨s', h1, h2⟩
      · omega
      · exact hn s' _ h2 (.inl h1)
    · have hbg : b ≠ g := by rintro rfl; exact hn (.inl (hgx s p hb))
      have h1 : ¬ r = some s := fun h => hn (.inl h)
      have h2 : ¬ mv = some s := fun h => hn (.inr h)
      simp [apL, hbg, hb, h1, h2]
    · have hbg : b ≠ g := by
        rintro rfl
        rcases hg with h1 | ⟨s', h1, h2⟩
        · omega
        · rw [hn] at h2; cases h2
      simp [apL, hbg, hn]
    · rcases apL_some hl with ⟨rfl, rfl⟩ | ⟨_, s, i, o, p', _, hb, _, rfl⟩ | ⟨_, s, i, o, p', _, hb, rfl⟩ | ⟨_, hb, h1, h2⟩
      · refine ⟨hgl, .inr ⟨rfl, ?_⟩⟩
        rcases hg with h1 | ⟨s', h1, h2⟩
        · exact .inl h1
        · exact .inr ⟨s', _, h2, by simp⟩
      · exact ⟨by have := (hlt b _ hb).1; omega, .inr ⟨rfl, .inr ⟨s, _, hb, by simp⟩⟩⟩
      · exact ⟨by have := (hlt b _ hb).1; omega, .inr ⟨rfl, .inr ⟨s, _, hb, by simp⟩⟩⟩
      · exact ⟨by have := (hlt b _ hb).1; omega, .inl ⟨hb, fun h => h.elim h1 h2⟩⟩
    · rcases apL_some h1 with ⟨rfl, rfl⟩ | ⟨_, s, i, o, p', hr, hb, hi, rfl⟩ | ⟨_, s, i, o, p', hm', hb, rfl⟩ | ⟨_, hb, _, _⟩ <;>
        rcases apL_some h2 with ⟨rfl, h3⟩ | ⟨_, s2, i2, o2, p2, hr2, hb2, hi2, h3⟩ | ⟨_, s2, i2, o2, p2, hm2, hb2, h3⟩ | ⟨_, hb2, _, _⟩
      · rfl
      · simp at h3
      · simp at h3
      · have := (hlt _ _ hb2).2; simp at this
      · simp at h3
      · simp at h3
        obtain ⟨⟨rfl, rfl⟩, rfl⟩ := h3
        rw [hr] at hr2
        obtain rfl := Option.some.inj hr2
        exact hR.inj _ _ _ hb hb2
      · simp at h3; omega
      · have := (hlt _ _ hb2).2; simp at this
      · simp at h3
      · simp at h3; omega
      · simp at h3
        obtain ⟨⟨h4, rfl⟩, rfl⟩ := h3
        rw [hm'] at hm2
        obtain rfl := Option.some.inj hm2
        rw [show i = i2 from by omega] at hb
        exact hR.inj _ _ _ hb hb2
      · have := (hlt _ _ hb2).2; simp at this
      · subst h3; have := (hlt _ _ hb).2; simp at this
      · subst h3; have := (hlt _ _ hb).2; simp at this
      · subst h3; have := (hlt _ _ hb).2; simp at this
      · exact hR.inj _ _ _ hb hb2
  have hrel := hR.leave (σ' := σ') V hσ hroot
  refine ⟨_, hrel, ⟨rfl, rfl⟩, fun j c hj => ?_⟩
  cases j with
  | succ j => simp at hj
  | zero =>
    simp at hj
    subst hj
    have hz : ∀ b, Zof w0 A L w b → Zof w0 A (apL N L r mv rows.length g) w' b ∧ w'.heap[b]? = w.heap[b]? := fun b ⟨h1, h2, h3⟩ =>
      ⟨⟨V.zer b h2 h1, by omega, h3⟩, V.blk b h2 fun s p h => by rw [h1] at h; cases h⟩
    have hnb : ∀ b s i o p', L b = some (s, (0, 0) :: (i, o) :: p') → b ≠ g := by
      rintro b s i o p' hb rfl
      rcases hg with h1 | ⟨s', _, h2⟩
      · have := (hlt b _ hb).1; omega
      · rw [hb] at h2; simp at h2
    have key : Rep P (Zof w0 A (apL N L r mv rows.length g) w') (apL N L r mv rows.length g) w' N [(0, 0)] (.slice (some ⟨g, 0, none⟩) (rows ++ rows2).length cap) (.sl (some e) (rows ++ rows2)) := by
      refine .own (by simp [apL]) harr (by simpa using hcap) hm ha (fun row hrow => by rcases List.mem_append.1 hrow with h | h; exact hu row h; exact hu2 row h) fun k row o c h1 h2 => ?_
      by_cases hk : k < rows.length
      · rw [List.getElem?_append_left hk] at h1
        obtain ⟨s, hr, hrep⟩ := hk1 k row o c h1 h2
        refine hrep.move [(0, 0), (k, o)] hz fun b q hb => ?_
        simp only [List.cons_append, List.nil_append] at hb ⊢
        have hbg := hnb b s _ _ _ hb
        refine ⟨by simp [apL, hbg, hb, hr, hk], hblk b (hlt b _ hb).1 hbg⟩
      · rw [List.getElem?_append_right (by omega)] at h1
        have hke : rows.length + (k - rows.length) = k := by omega
        rcases hk2 (k - rows.length) row o c h1 h2 with hf | ⟨s, hr, hrep⟩
        · rw [hke] at hf
          exact .frz (hf.mono hz)
        · rw [hke] at hrep
          refine hrep.move [(0, 0), (k, o)] hz fun b q hb => ?_
          simp only [List.cons_append, List.nil_append] at hb ⊢
          have hbg := hnb b s _ _ _ hb
          have hrs : r ≠ some s := by
            rcases hne with h | h
            · rw [h] at hr; cases hr
            · intro h'; exact h (hr.trans h'.symm)
          refine ⟨by simp [apL, hbg, hb, hr, hrs, hke], hblk b (hlt b _ hb).1 hbg⟩
    simpa [Value.cells] using key

theorem goneO_or (σ : St) (mv : Option Nat) (s : Nat) : goneO σ mv s = .u ∨ (goneO σ mv s = σ s ∧ mv ≠ some s ∧ ∀ x, refOf (σ s) = some x → mv ≠ some x) := by
  cases mv with
  | none => exact .inr ⟨rfl, by simp, fun _ _ => by simp⟩
  | some m =>
    simp only [goneO, gone]
    by_cases hsm : s = m
    · left; rw [if_pos hsm]
    · rw [if_neg hsm]
      rcases killSV_or m (σ s) with ⟨h3, h4⟩ | h3
      · right; exact ⟨h3, by simp; exact fun h => hsm h.symm, fun x hx => by simp; rintro rfl; exact h4 hx⟩
      · left; exact h3
theorem goneO_root {σ : St} {mv : Option Nat} {x : Nat} (hx : isRoot (σ x) = true) (hm : mv ≠ some x) : goneO σ mv x = σ x := by
  cases mv with
  | none => rfl
  | some m =>
    have : x ≠ m := fun h => hm (by rw [h])
    simp [goneO, gone, this, killSV_root hx]

theorem apE_spec {e : TypeId} (h : apE P e = true) : ∃ i z, P.info? e = some i ∧ i.zero = some z ∧ i.bytes ≤ 128 ∧ z.cells.size = i.size := by
  unfold apE at h
  split at h
  · rename_i i hi
    simp at h
    obtain ⟨h1, h2⟩ := h
    split at h2
    · rename_i z hz
      simp at h2
      exact ⟨i, z, hi, hz, h1, h2⟩
    · cases h2
  · cases h

theorem run_append_none {t ty e : TypeId} {i : TypeInfo} (hu : P.underlying t = some (.slice e)) (hi : P.info? e = some i) (w : World) (base : Option Addr) (n cap : Nat) (hle : n ≤ cap) (ad : Option Addr) (cap2 : Nat) :
    (Builtin.append_ #[t, t] ty #[.slice base n cap, .slice ad 0 cap2]).run P w = .ok (.slice base n cap) w := by
  have hf : ∀ ad : Option Addr, (Builtin.firstCells i.size 0 (.slice ad 0 cap2)).run P w = .ok #[] w := by
    intro ad
    cases ad with
    | none => simp [Builtin.firstCells]
    | some a => simp [Builtin.firstCells, loadCells, loadCellsFrom]
  cases base with
  | none => simp [Builtin.append_, run_underlying hu, sizeOf, typeInfo, hi, Builtin.lenOf, hle, hf]
  | some b => simp [Builtin.append_, run_underlying hu, sizeOf, typeInfo, hi, Builtin.lenOf, hle, hf, storeCells]

/-- **Appends to nothing are sound.** -/
theorem append_nil_ok {σ : St} {a : Act} {w : World} {L : Lab} (hR : Rel P N N w0 A I σ a w L) {t ty e : TypeId} {sz : Nat} {x : Operand} {rows2 : List (List C)} {mv : Option Nat} (hE : slE P t = some (e, sz)) (hb : apE P e = true)
    (hs : addRows σ (evS σ x) = some (rows2, mv)) (hu2 : ∀ row ∈ rows2, row.length = sz) (hlen : rows2.length ≤ 1099511627776) :
    ∃ v w' L1, (Builtin.append_ #[t, t] ty #[.slice none 0 0, a.eval x]).run P w = .ok v w' ∧ Rel P N (N + 1) w0 A I (goneO σ mv) a w' L1 ∧
      RelS P (Zof w0 A L1 w') L1 w' (tmOf a) (goneO σ mv) N v (.ov false [.sl (some e) rows2]) := by
  obtain ⟨i, hu, hi, hsz, hes⟩ := slE_spec hE
  obtain ⟨i', z, hi', hz, hby, hzs⟩ := apE_spec hb
  rw [hi] at hi'
  obtain rfl := Option.some.inj hi'
  have hx : noTup (evS σ x) = true := by cases hx : evS σ x <;> simp_all [noTup, addRows, slOf, deref]
  obtain ⟨hmv, hsrc⟩ := src_ok hR (evS_ok hR 0 x hx) hs
  rcases hsrc with ⟨rfl, ad, cap, hv⟩ | ⟨b, off, cap, sz', vs, hv, hrow, hc⟩
  · refine ⟨.slice none 0 0, w, ?_⟩
    have hrun := run_append_none (ty := ty) hu hi w none 0 0 (Nat.le_refl _) ad cap
    rw [← hv] at hrun
    have hrs : ∀ L1, RelS P (Zof w0 A L1 w) L1 w (tmOf a) (goneO σ mv) N (.slice none 0 0) (.ov false [.sl (some e) []]) := fun L1 => ⟨⟨rfl, rfl⟩, fun j c hj => by
      cases j with
      | zero => simp at hj; subst hj; exact .onil
      | succ j => simp at hj⟩
    cases mv with
    | none => exact ⟨L, hrun, hR.up, hrs L⟩
    | some m => exact ⟨_, hrun, hR.takeN m, hrs _⟩
  · by_cases h0 : rows2 = []
    · subst h0
      have hrun := run_append_none (ty := ty) hu hi w none 0 0 (Nat.le_refl _) (some ⟨b, off, none⟩) cap
      simp only [List.length_nil] at hv
      rw [← hv] at hrun
      have hrs : ∀ L1, RelS P (Zof w0 A L1 w) L1 w (tmOf a) (goneO σ mv) N (.slice none 0 0) (.ov false [.sl (some e) []]) := fun L1 => ⟨⟨rfl, rfl⟩, fun j c hj => by
        cases j with
        | zero => simp at hj; subst hj; exact .onil
        | succ j => simp at hj⟩
      refine ⟨.slice none 0 0, w, ?_⟩
      cases mv with
      | none => exact ⟨L, hrun, hR.up, hrs L⟩
      | some m => exact ⟨_, hrun, hR.takeN m, hrs _⟩
    · have hpos : 0 < rows2.length := List.length_pos_iff.2 h0
      have hsz' : sz' = sz := by
        cases rows2 with
        | nil => exact absurd rfl h0
        | cons r l => have e1 := hrow r (by simp); have e2 := hu2 r (by simp); omega
      subst hsz'
      have hbytes : rows2.length * i.bytes ≤ 140737488355328 := by
        calc rows2.length * i.bytes ≤ 1099511627776 * 128 := Nat.mul_le_mul hlen hby
          _ = 140737488355328 := by decide
      have hnews : ∀ j v, (flat sz' rows2.length vs)[j]? = some v → w.cell? ((⟨b, off, none⟩ : Addr).add j) = some v := by
        intro j v hj
        obtain ⟨i1, o1, h1, h2, rfl, rfl⟩ := flat_inv hj
        rw [Addr.add_lit, ← Nat.add_assoc]
        exact (hc i1 _ o1 _ (List.getElem?_eq_getElem h1) (List.getElem?_eq_getElem (by rw [hrow _ (List.getElem_mem h1)]; exact h2))).1
      have hrun := run_append_nil (P := P) w t ty e i z hu hi hz ⟨b, off, none⟩ rows2.length cap (flat sz' rows2.length vs) (by rw [flat_len, hsz]) hnews hpos (by omega) (by omega)
      have hge := grownCap_ge w rows2.length 0 e
      have hle := grownCap_le_maxLen w rows2.length 0 e (by simp [maxLen]; omega)
      have hasz : (((flat sz' rows2.length vs).toArray ++ Builtin.zeroCells z.cells (grownCap w rows2.length 0 e - rows2.length)) : Array Value).size = grownCap w rows2.length 0 e * esz P e := by
        rw [Array.size_append, size_zeroCells, hzs, hsz, hes, List.size_toArray, flat_len, ← Nat.add_mul]
        congr 1
        omega
      have := ap_fin (σ' := goneO σ mv) (w' := w.drew.alloc (.cells ((flat sz' rows2.length vs).toArray ++ Builtin.zeroCells z.cells (grownCap w rows2.length 0 e - rows2.length)) e)) (r := none) (mv := mv) (rows := []) (rows2 := rows2)
        (g := w.heap.size) (cap := grownCap w rows2.length 0 e) (e := e) (arr := (flat sz' rows2.length vs).toArray ++ Builtin.zeroCells z.cells (grownCap w rows2.length 0 e - rows2.length)) hR (by cases mv <;> simp) rfl rfl rfl (by simp) (by simp) (.inl (Nat.le_refl _))
        (fun b' hb' _ => heap_alloc_old w.drew _ b' hb') (heap_alloc_at w.drew _) (by simpa using hge) hle hasz (by simp) (fun row hr => by rw [hu2 row hr, hes]) (fun i row o c h1 => by simp at h1)
        (fun i1 row o c h1 h2 => by
          have ho : o < sz' := by have := hu2 row (List.mem_of_getElem? h1); have := (List.getElem?_eq_some_iff.1 h2).1; omega
          have hi1 : i1 < rows2.length := (List.getElem?_eq_some_iff.1 h1).1
          have hval : ((flat sz' rows2.length vs).toArray ++ Builtin.zeroCells z.cells (grownCap w rows2.length 0 e - rows2.length)).getD ((([] : List (List C)).length + i1) * esz P e + o) undef = vs i1 o := by
            have hlt : i1 * sz' + o < rows2.length * sz' := by
              calc i1 * sz' + o < i1 * sz' + sz' := by omega
                _ = (i1 + 1) * sz' := by rw [Nat.add_mul, Nat.one_mul]
                _ ≤ rows2.length * sz' := Nat.mul_le_mul_right _ (by omega)
            simp only [List.length_nil, Nat.zero_add, hes]
            rw [Array.getD_eq_getD_getElem?, Array.getElem?_append_left (by rw [List.size_toArray, flat_len]; exact hlt), List.getElem?_toArray, flat_get hi1 ho]
            rfl
          rw [hval]
          rcases (hc i1 row o c h1 h2).2 with ⟨_, hf⟩ | ⟨m, hm, hrep⟩
          · exact .inl hf
          · exact .inr ⟨m, hm, hrep⟩)
        (fun s => by
          rcases goneO_or σ mv s with h | ⟨h1, h2, h3⟩
          · exact .inl h
          · exact .inr ⟨h1, by simpa using h2, fun x hx => by simpa using h3 x hx⟩)
        (fun x hx hn => goneO_root hx (by simpa using hn))
      obtain ⟨L1, h1, h2⟩ := this
      refine ⟨_, _, L1, ?_, h1, by simpa using h2⟩
      rw [hv, hrun]

theorem Rel.goneN {σ : St} {a : Act} {w : World} {L : Lab} {r : Nat} {v : Value} {g : Bool} {cs : List C} (hR : Rel P N (N + 1) w0 A I σ a w L) (hr : r < N) (h : RelS P (Zof w0 A L w) L w (tmOf a) σ N v (.ov g cs)) :
    ∃ L1, Rel P N (N + 1) w0 A I (gone σ r) a w L1 ∧ RelS P (Zof w0 A L1 w) L1 w (tmOf a) (gone σ r) N v (.ov g cs) := by
  refine ⟨mapL L r (fun _ => none), hR.take (Nat.le_refl _) rfl (fun q l h => by cases h), ?_⟩
  refine RepV.keep h (fun b h => ⟨⟨by simp [mapL, h.1], h.2⟩, rfl⟩) fun b j q hb => ⟨?_, rfl⟩
  have : N ≠ r := by omega
  simp [mapL, hb, this]

/-- **Appends to an owned slice are sound.** -/
theorem append_own_ok {σ : St} {a : Act} {w : World} {L : Lab} (hR : Rel P N N w0 A I σ a w L) {t ty e : TypeId} {sz r : Nat} {x : Operand} {rows rows2 : List (List C)} {mv : Option Nat} (hE : slE P t = some (e, sz)) (hb : apE P e = true)
    (hs : addRows σ (evS σ x) = some (rows2, mv)) (hu2 : ∀ row ∈ rows2, row.length = sz) (hr : σ r = .ov false [.sl (some e) rows]) (hne : mv ≠ some r) (hlen : rows.length + rows2.length ≤ 1099511627776) :
    ∃ v w' L1, (Builtin.append_ #[t, t] ty #[tmOf a r, a.eval x]).run P w = .ok v w' ∧ Rel P N (N + 1) w0 A I (gone (goneO σ mv) r) a w' L1 ∧
      RelS P (Zof w0 A L1 w') L1 w' (tmOf a) (gone (goneO σ mv) r) N v (.ov false [.sl (some e) (rows ++ rows2)]) := by
  have hrN : r < N := by
    rcases Nat.lt_or_ge r N with h | h
    · exact h
    · rw [hR.out r h] at hr; cases hr
  have hslot := hR.slot r
  rw [hr] at hslot
  have hrep := hslot.2 0 _ rfl
  have hcell : (tmOf a r).cells = #[tmOf a r] := hslot.1.1
  have hrep : Rep P (Zof w0 A L w) L w r [(0, 0)] (tmOf a r) (.sl (some e) rows) := by
    have h1 : (tmOf a r).cells.getD 0 undef = tmOf a r := by rw [hcell]; rfl
    rw [← h1]
    exact hrep
  rcases hrep.node with ⟨hv0, rfl⟩ | ⟨b, arr, cap, hv0, hncap, hcm, hasz, hu, hnode⟩
  · have hv0 : tmOf a r = .slice none 0 0 := hv0
    obtain ⟨v, w', L1, h1, h2, h3⟩ := append_nil_ok (ty := ty) hR hE hb hs hu2 (by simpa using hlen)
    obtain ⟨L2, h4, h5⟩ := h2.goneN hrN h3
    exact ⟨v, w', L2, by rw [hv0]; exact h1, h4, by simpa using h5⟩
  · have hv0 : tmOf a r = .slice (some ⟨b, 0, none⟩) rows.length cap := hv0
    obtain ⟨i, hu0, hi, hsz, hes⟩ := slE_spec hE
    obtain ⟨i', z, hi', hz, hby, hzs⟩ := apE_spec hb
    rw [hi] at hi'
    obtain rfl := Option.some.inj hi'
    have hx : noTup (evS σ x) = true := by cases hx : evS σ x <;> simp_all [noTup, addRows, slOf, deref]
    obtain ⟨hmv, hsrc⟩ := src_ok hR (evS_ok hR 0 x hx) hs
    have hbw : b < w.heap.size := (hR.lab b _ hnode.lab).1
    have hσ : ∀ s, gone (goneO σ mv) r s = .u ∨ (gone (goneO σ mv) r s = σ s ∧ ¬ (some r = some s ∨ mv = some s) ∧ ∀ x, refOf (σ s) = some x → ¬ (some r = some x ∨ mv = some x)) := by
      intro s
      simp only [gone]
      by_cases hsr : s = r
      · left; rw [if_pos hsr]
      · rw [if_neg hsr]
        rcases goneO_or σ mv s with h | ⟨h1, h2, h3⟩
        · left; rw [h]; rfl
        · rw [h1]
          rcases killSV_or r (σ s) with ⟨h4, h5⟩ | h4
          · right
            refine ⟨h4, ?_, fun x hx => ?_⟩
            · rintro (h | h)
              · simp at h; exact hsr h.symm
              · exact h2 h
            · rintro (h | h)
              · simp at h; subst h; exact h5 hx
              · exact h3 x hx h
          · left; exact h4
    have hroot : ∀ x, isRoot (σ x) = true → ¬ (some r = some x ∨ mv = some x) → gone (goneO σ mv) r x = σ x := by
      intro x hx hn
      have h1 : x ≠ r := fun h => hn (.inl (by rw [h]))
      simp only [gone, if_neg h1]
      rw [goneO_root hx (fun h => hn (.inr h)), killSV_root hx]
    have hk1 : ∀ (arr' : Array Value), (∀ k, k < rows.length * esz P e → arr'.getD k undef = arr.getD k undef) → ∀ (i : Nat) (row : List C) (o : Nat) (c : C), rows[i]? = some row → row[o]? = some c →
        ∃ s, some r = some s ∧ Rep P (Zof w0 A L w) L w s [(0, 0), (i, o)] (arr'.getD (i * esz P e + o) undef) c := by
      intro arr' heq i row o c h1 h2
      refine ⟨r, rfl, ?_⟩
      have hil : i < rows.length := (List.getElem?_eq_some_iff.1 h1).1
      have hol : o < esz P e := by have := hu row (List.mem_of_getElem? h1); have := (List.getElem?_eq_some_iff.1 h2).1; omega
      rw [heq _ (by
        calc i * esz P e + o < i * esz P e + esz P e := by omega
          _ = (i + 1) * esz P e := by rw [Nat.add_mul, Nat.one_mul]
          _ ≤ rows.length * esz P e := Nat.mul_le_mul_right _ (by omega))]
      simpa using hnode.kids i row o c h1 h2
    have none_case : ∀ ad cap2, rows2 = [] → a.eval x = .slice ad 0 cap2 → ∃ v w' L1, (Builtin.append_ #[t, t] ty #[tmOf a r, a.eval x]).run P w = .ok v w' ∧ Rel P N (N + 1) w0 A I (gone (goneO σ mv) r) a w' L1 ∧
        RelS P (Zof w0 A L1 w') L1 w' (tmOf a) (gone (goneO σ mv) r) N v (.ov false [.sl (some e) (rows ++ rows2)]) := by
      intro ad cap2 h0 hv
      subst h0
      have hrun := run_append_none (ty := ty) hu0 hi w (some ⟨b, 0, none⟩) rows.length cap hncap ad cap2
      rw [← hv, ← hv0] at hrun
      obtain ⟨L1, h1, h2⟩ := ap_fin (σ' := gone (goneO σ mv) r) (w' := w) (r := some r) (mv := mv) (rows := rows) (rows2 := []) (g := b) (cap := cap) (e := e) (arr := arr) hR (.inr hne) rfl rfl rfl (Nat.le_refl _) hbw
        (.inr ⟨r, rfl, hnode.lab⟩) (fun _ _ _ => rfl) hnode.heap (by simpa using hncap) hcm hasz hu (by simp) (hk1 arr fun _ _ => rfl) (fun i row o c h => by simp at h) hσ hroot
      refine ⟨_, w, L1, hrun, h1, ?_⟩
      rw [hv0]
      simpa using h2
    rcases hsrc with ⟨h0, ad, cap2, hv⟩ | ⟨b2, off, cap2, sz', vs, hv, hrow, hc⟩
    · exact none_case ad cap2 h0 hv
    · by_cases h0 : rows2 = []
      · exact none_case (some ⟨b2, off, none⟩) cap2 h0 (by rw [hv, h0]; rfl)
      · have hpos : 0 < rows2.length := List.length_pos_iff.2 h0
        have hsz' : sz' = sz := by
          cases rows2 with
          | nil => exact absurd rfl h0
          | cons r l => have e1 := hrow r (by simp); have e2 := hu2 r (by simp); omega
        subst hsz'
        have hbytes : (rows.length + rows2.length) * i.bytes ≤ 140737488355328 := by
          calc (rows.length + rows2.length) * i.bytes ≤ 1099511627776 * 128 := Nat.mul_le_mul hlen hby
            _ = 140737488355328 := by decide
        have hnews : ∀ j v, (flat sz' rows2.length vs)[j]? = some v → w.cell? ((⟨b2, off, none⟩ : Addr).add j) = some v := by
          intro j v hj
          obtain ⟨i1, o1, h1, h2, rfl, rfl⟩ := flat_inv hj
          rw [Addr.add_lit, ← Nat.add_assoc]
          exact (hc i1 _ o1 _ (List.getElem?_eq_getElem h1) (List.getElem?_eq_getElem (by rw [hrow _ (List.getElem_mem h1)]; exact h2))).1
        have hone : ∀ u ∈ flat sz' rows2.length vs, u.oneCell' = true := by
          intro u hu3
          obtain ⟨j, hj⟩ := List.mem_iff_getElem?.1 hu3
          obtain ⟨i1, o1, h1, h2, rfl, rfl⟩ := flat_inv hj
          rcases (hc i1 _ o1 _ (List.getElem?_eq_getElem h1) (List.getElem?_eq_getElem (by rw [hrow _ (List.getElem_mem h1)]; exact h2))).2 with ⟨_, hf⟩ | ⟨_, _, hf⟩
          · exact hf.oneCell
          · exact hf.oneCell
        have hk2 : ∀ (arr' : Array Value), (∀ i1 o1, i1 < rows2.length → o1 < sz' → arr'.getD ((rows.length + i1) * esz P e + o1) undef = vs i1 o1) → ∀ (i : Nat) (row : List C) (o : Nat) (c : C), rows2[i]? = some row → row[o]? = some c →
            (Frz (Zof w0 A L w) w (arr'.getD ((rows.length + i) * esz P e + o) undef) c) ∨ ∃ s, mv = some s ∧ Rep P (Zof w0 A L w) L w s [(0, 0), (i, o)] (arr'.getD ((rows.length + i) * esz P e + o) undef) c := by
          intro arr' heq i1 row o c h1 h2
          have ho : o < sz' := by have := hu2 row (List.mem_of_getElem? h1); have := (List.getElem?_eq_some_iff.1 h2).1; omega
          rw [heq i1 o (List.getElem?_eq_some_iff.1 h1).1 ho]
          rcases (hc i1 row o c h1 h2).2 with ⟨_, hf⟩ | ⟨m, hm, hrep⟩
          · exact .inl hf
          · exact .inr ⟨m, hm, hrep⟩
        have hidx : ∀ i1 o1, i1 < rows2.length → o1 < sz' → i1 * sz' + o1 < rows2.length * sz' := fun i1 o1 h1 h2 => by
          calc i1 * sz' + o1 < i1 * sz' + sz' := by omega
            _ = (i1 + 1) * sz' := by rw [Nat.add_mul, Nat.one_mul]
            _ ≤ rows2.length * sz' := Nat.mul_le_mul_right _ (by omega)
        by_cases hroom : rows.length + rows2.length ≤ cap
        · have hfit : rows.length * i.size + (flat sz' rows2.length vs).length ≤ arr.size := by
            rw [flat_len, hasz, hes, hsz, ← Nat.add_mul]; exact Nat.mul_le_mul_right _ hroom
          have hrun := run_append_room (P := P) w t ty e i hu0 hi b rows.length cap arr hnode.heap ⟨b2, off, none⟩ rows2.length cap2 (flat sz' rows2.length vs) (by rw [flat_len, hsz]) hnews hone hroom hfit
          rw [← hv, ← hv0] at hrun
          have hasz2 : (arr.toList.take (rows.length * i.size) ++ flat sz' rows2.length vs ++ arr.toList.drop (rows.length * i.size + (flat sz' rows2.length vs).length)).toArray.size = arr.size ∧
              ∀ k, (arr.toList.take (rows.length * i.size) ++ flat sz' rows2.length vs ++ arr.toList.drop (rows.length * i.size + (flat sz' rows2.length vs).length)).toArray.getD k undef =
                if rows.length * i.size ≤ k ∧ k < rows.length * i.size + (flat sz' rows2.length vs).length then (flat sz' rows2.length vs).toArray.getD (k - rows.length * i.size) undef else arr.getD k undef :=
            splice_arr (arr := arr) (vs := (flat sz' rows2.length vs).toArray) (off := rows.length * i.size) (by simpa using hfit)
          generalize hA' : (arr.toList.take (rows.length * i.size) ++ flat sz' rows2.length vs ++ arr.toList.drop (rows.length * i.size + (flat sz' rows2.length vs).length)).toArray = arr' at hrun hasz2
          obtain ⟨L1, h1, h2⟩ := ap_fin (σ' := gone (goneO σ mv) r) (w' := w.setRow b arr') (r := some r) (mv := mv) (rows := rows) (rows2 := rows2) (g := b) (cap := cap) (e := e) (arr := arr') hR (.inr hne) rfl rfl rfl (by simp) (by simpa using hbw)
            (.inr ⟨r, rfl, hnode.lab⟩) (fun b' _ hb' => setRow_other w b b' arr' hb') (setRow_heap w b arr arr' e (0, 0) hnode.heap) hroom hcm (by rw [hasz2.1]; exact hasz) hu (fun row hr => by rw [hu2 row hr, hes])
            (hk1 arr' fun k hk => by rw [hasz2.2, if_neg (by rw [hes, ← hsz] at hk; omega)])
            (hk2 arr' fun i1 o1 h1 h2 => by
              rw [hasz2.2]
              have h3 := hidx i1 o1 h1 h2
              have h4 : (rows.length + i1) * esz P e + o1 = rows.length * i.size + (i1 * sz' + o1) := by rw [hes, hsz, Nat.add_mul]; omega
              rw [h4, if_pos ⟨by omega, by rw [flat_len]; omega⟩]
              rw [show rows.length * i.size + (i1 * sz' + o1) - rows.length * i.size = i1 * sz' + o1 from by omega]
              rw [Array.getD_eq_getD_getElem?, List.getElem?_toArray, flat_get h1 h2]
              rfl) hσ hroot
          exact ⟨_, _, L1, hrun, h1, h2⟩
        · have holds : ∀ j v, (arr.toList.take (rows.length * i.size))[j]? = some v → w.cell? ((⟨b, 0, none⟩ : Addr).add j) = some v := by
            intro j v hj
            obtain ⟨hj1, hj2⟩ := take_get hj
            rw [Addr.add_lit, Nat.zero_add]
            simp [World.cell?, hnode.heap]
            simpa using hj2
          have hlen2 : (arr.toList.take (rows.length * i.size)).length = rows.length * i.size := by
            rw [List.length_take, show arr.toList.length = arr.size from rfl, hasz, hes, hsz]
            exact Nat.min_eq_left (Nat.mul_le_mul_right _ hncap)
          have hrun := run_append_grow (P := P) w t ty e i z hu0 hi hz ⟨b, 0, none⟩ rows.length cap _ hlen2 holds ⟨b2, off, none⟩ rows2.length cap2 (flat sz' rows2.length vs) (by rw [flat_len, hsz]) hnews (by omega) (by omega) (growslice_fits (by omega) hbytes)
          rw [← hv, ← hv0] at hrun
          have hge := grownCap_ge w (rows.length + rows2.length) cap e
          have hle := grownCap_le_maxLen w (rows.length + rows2.length) cap e (by simp [maxLen]; omega)
          generalize hgc : grownCap w (rows.length + rows2.length) cap e = gc at hrun hge hle
          have hA1 : ((arr.toList.take (rows.length * i.size)).toArray ++ (flat sz' rows2.length vs).toArray).size = (rows.length + rows2.length) * sz' := by
            rw [Array.size_append, List.size_toArray, List.size_toArray, hlen2, flat_len, hsz, Nat.add_mul]
          generalize hA' : (arr.toList.take (rows.length * i.size)).toArray ++ (flat sz' rows2.length vs).toArray ++ Builtin.zeroCells z.cells (gc - (rows.length + rows2.length)) = arr' at hrun
          have hasz2 : arr'.size = gc * esz P e := by
            rw [← hA', Array.size_append, hA1, size_zeroCells, hzs, hsz, hes, ← Nat.add_mul]
            congr 1
            omega
          have hget : ∀ k, k < (rows.length + rows2.length) * sz' → arr'[k]? = ((arr.toList.take (rows.length * i.size)).toArray ++ (flat sz' rows2.length vs).toArray)[k]? := fun k hk => by
            rw [← hA', Array.getElem?_append_left (by rw [hA1]; exact hk)]
          obtain ⟨L1, h1, h2⟩ := ap_fin (σ' := gone (goneO σ mv) r) (w' := w.drew.alloc (.cells arr' e)) (r := some r) (mv := mv) (rows := rows) (rows2 := rows2) (g := w.heap.size) (cap := gc) (e := e) (arr := arr') hR (.inr hne) rfl rfl rfl (by simp) (by simp)
            (.inl (Nat.le_refl _)) (fun b' hb' _ => heap_alloc_old w.drew _ b' hb') (heap_alloc_at w.drew _) hge hle hasz2 hu (fun row hr => by rw [hu2 row hr, hes])
            (hk1 arr' fun k hk => by
              rw [hes] at hk
              rw [Array.getD_eq_getD_getElem?, hget k (by rw [Nat.add_mul]; omega), Array.getElem?_append_left (by rw [List.size_toArray, hlen2, hsz]; exact hk), List.getElem?_toArray, List.getElem?_take, if_pos (by rw [hsz]; exact hk)]
              simp)
            (hk2 arr' fun i1 o1 h1 h2 => by
              have h3 := hidx i1 o1 h1 h2
              have h4 : (rows.length + i1) * esz P e + o1 = rows.length * sz' + (i1 * sz' + o1) := by rw [hes, Nat.add_mul]; omega
              rw [h4, Array.getD_eq_getD_getElem?, hget _ (by rw [Nat.add_mul]; omega), Array.getElem?_append_right (by rw [List.size_toArray, hlen2, hsz]; omega), List.size_toArray, hlen2, hsz]
              rw [show rows.length * sz' + (i1 * sz' + o1) - rows.length * sz' = i1 * sz' + o1 from by omega]
              rw [List.getElem?_toArray, flat_get h1 h2]
              rfl) hσ hroot
          exact ⟨_, _, L1, hrun, h1, h2⟩
end Go.PV
