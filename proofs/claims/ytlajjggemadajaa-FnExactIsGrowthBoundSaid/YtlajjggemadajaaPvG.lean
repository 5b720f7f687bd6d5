/-
  A walk over pure values: what keeps the relation.
  Conditions: none.
-/
import Derived.Test.YtlajjggemadajaaPvE
set_option linter.all false
namespace Go.PV
variable {P : Program} {N : Nat} {w0 : World} {A : Nat → Prop} {I : List Nat}

def refOf : SV → Option Nat
  | .ref r _ _ | .addr r _ => some r
  | _ => none

structure KeepAt (L : Lab) (w : World) (tm : Nat → Value) (σ : St) (L' : Lab) (w' : World) (tm' : Nat → Value) (σ' : St) (r : Nat) : Prop where
  lab : ∀ b q, L b = some (r, q) → L' b = some (r, q) ∧ w'.heap[b]? = w.heap[b]?
  tm : tm' r = tm r
  root : isRoot (σ' r) = true
  box : isBox (σ' r) = isBox (σ r)

theorem RepV.keep {Z Z' : Nat → Prop} {L L' : Lab} {w w' : World} {s s' i i' : Nat} {g : Bool} {v : Value} {cs : List C} (h : RepV P Z L w s i g v cs)
    (hz : ∀ b, Z b → Z' b ∧ w'.heap[b]? = w.heap[b]?) (hl : ∀ b j q, L b = some (s, (i, j) :: q) → L' b = some (s', (i', j) :: q) ∧ w'.heap[b]? = w.heap[b]?) : RepV P Z' L' w' s' i' g v cs :=
  ⟨h.1, fun j c hj => (h.2 j c hj).move [(i', j)] hz fun b q hb => by simpa using hl b j q (by simpa using hb)⟩

theorem BoxAt.keep {Z Z' : Nat → Prop} {L L' : Lab} {w w' : World} {s s' b : Nat} {cs : List C} (h : BoxAt P Z L w s b cs)
    (hz : ∀ b, Z b → Z' b ∧ w'.heap[b]? = w.heap[b]?) (hl : ∀ b q, L b = some (s, q) → L' b = some (s', q) ∧ w'.heap[b]? = w.heap[b]?) : BoxAt P Z' L' w' s' b cs := by
  obtain ⟨h1, arr, e, h2, h3, h4⟩ := h
  have h0 := hl b [] h1
  exact ⟨h0.1, arr, e, h0.2.trans h2, h3, fun j c hj => (h4 j c hj).move [(0, j)] hz fun b q hb => hl b _ hb⟩

/-- A slot's tale is kept. 's'': the place that its labels have now. -/
theorem RelS.keep {Z Z' : Nat → Prop} {L L' : Lab} {w w' : World} {tm tm' : Nat → Value} {σ σ' : St} {s s' : Nat} {tv : Value} {sv : SV} (h : RelS P Z L w tm σ s tv sv)
    (hz : ∀ b, Z b → Z' b ∧ w'.heap[b]? = w.heap[b]?) (hl : ∀ b q, isLab sv = true → L b = some (s, q) → L' b = some (s', q) ∧ w'.heap[b]? = w.heap[b]?)
    (hr : ∀ r, refOf sv = some r → isRoot (σ r) = true → KeepAt L w tm σ L' w' tm' σ' r) : RelS P Z' L' w' tm' σ' s' tv sv := by
  cases sv with
  | u => trivial
  | p v => exact h
  | d g cs => exact FrzV.mono h hz
  | ov g cs => exact RepV.keep h hz fun b j q hb => hl b _ rfl hb
  | box cs =>
    obtain ⟨b, h1, h2⟩ := h
    exact ⟨b, h1, h2.keep hz fun b q => hl b q rfl⟩
  | ref r q n =>
    obtain ⟨h1, h2⟩ := h
    have k := hr r rfl h1
    refine ⟨k.root, ?_⟩
    rcases h2 with ⟨a, b, c⟩ | ⟨q0, i, o, b, arr, e, h3, hbx, h4, h5, h6⟩
    · left
      refine ⟨by rw [k.box]; exact a, b, ?_⟩
      rw [k.tm]; exact c
    · right
      have k2 := k.lab b q0 h4
      exact ⟨q0, i, o, b, arr, e, h3, fun h => by rw [k.box]; exact hbx h, k2.1, k2.2.trans h5, h6⟩
  | addr r q =>
    obtain ⟨h1, q0, i, o, b, arr, e, h3, hbx, h4, h5, h6⟩ := h
    have k := hr r rfl h1
    have k2 := k.lab b q0 h4
    exact ⟨k.root, q0, i, o, b, arr, e, h3, fun h => by rw [k.box]; exact hbx h, k2.1, k2.2.trans h5, h6⟩
  | fadr cs =>
    obtain ⟨b, off, h1, h2, h3⟩ := h
    refine ⟨b, off, (hz b h1).1, h2, fun j c hj => ?_⟩
    obtain ⟨v, h4, h5⟩ := h3 j c hj
    exact ⟨v, (cell_of_heap (hz b h1).2 _).trans h4, h5.mono hz⟩
  | tup l =>
    obtain ⟨arr, h1, h2, h3⟩ := h
    refine ⟨arr, h1, h2, fun j y hj => ?_⟩
    have h4 := h3 j y hj
    cases y with
    | p v => exact h4
    | d g cs => exact FrzV.mono h4 hz
    | ov g cs => exact RepV.keep h4 hz fun b j q hb => hl b _ rfl hb
    | _ => trivial

theorem isRoot_killSV (r : Nat) (x : SV) : isRoot (killSV r x) = isRoot x := by
  cases x with
  | ref r' q n => by_cases h : r' = r <;> simp [killSV, isRoot, h]
  | addr r' q => by_cases h : r' = r <;> simp [killSV, isRoot, h]
  | _ => rfl
theorem isBox_killSV (r : Nat) (x : SV) : isBox (killSV r x) = isBox x := by
  cases x with
  | ref r' q n => by_cases h : r' = r <;> simp [killSV, isBox, h]
  | addr r' q => by_cases h : r' = r <;> simp [killSV, isBox, h]
  | _ => rfl
theorem killSV_root {r : Nat} {x : SV} (h : isRoot x = true) : killSV r x = x := by
  cases x <;> simp_all [killSV, isRoot]
/-- What a kill leaves: the same, or nothing. -/
theorem killSV_or (r : Nat) (x : SV) : (killSV r x = x ∧ refOf x ≠ some r) ∨ killSV r x = .u := by
  cases x with
  | ref r' q n => by_cases h : r' = r <;> simp [killSV, refOf, h]
  | addr r' q => by_cases h : r' = r <;> simp [killSV, refOf, h]
  | _ => left; simp [killSV, refOf]
theorem refOf_root {x : SV} {r : Nat} (h : refOf x = some r) : isRoot x = false := by
  cases x <;> simp_all [refOf, isRoot]

/-- New blocks alone; their labels those of the place N. -/
structure Grow (N : Nat) (L : Lab) (w : World) (L1 : Lab) (w' : World) : Prop where
  os : w'.os = w.os
  tape : w'.tape = w.tape
  output : w'.output = w.output
  size : w.heap.size ≤ w'.heap.size
  block : ∀ b, b < w.heap.size → w'.heap[b]? = w.heap[b]?
  old : ∀ b, b < w.heap.size → L1 b = L b
  new : ∀ b, w.heap.size ≤ b → ∀ l, L1 b = some l → l.1 = N ∧ b < w'.heap.size
  inj : ∀ b b' l, L1 b = some l → L1 b' = some l → b = b'

theorem Grow.refl {L : Lab} {w : World} (hi : ∀ b b' l, L b = some l → L b' = some l → b = b') (hb : ∀ b l, L b = some l → b < w.heap.size) : Grow N L w L w :=
  ⟨rfl, rfl, rfl, Nat.le_refl _, fun _ _ => rfl, fun _ _ => rfl, fun b h l hl => absurd (hb b l hl) (by omega), hi⟩

/-- What stands at x goes to d; what stood at d is let go. -/
def relab (L : Lab) (x d : Nat) : Lab := fun b => match L b with
  | some (s, q) => if s = d then none else if s = x then some (d, q) else some (s, q)
  | none => none
theorem relab_some {L : Lab} {x d b : Nat} {l : Nat × Path} (h : relab L x d b = some l) : ∃ s q, L b = some (s, q) ∧ s ≠ d ∧ ((s = x ∧ l = (d, q)) ∨ (s ≠ x ∧ l = (s, q))) := by
  unfold relab at h
  split at h
  · rename_i s q hb
    by_cases h1 : s = d
    · simp [h1] at h
    · by_cases h2 : s = x
      · subst h2
        rw [if_neg h1, if_pos rfl] at h
        exact ⟨s, q, hb, h1, .inl ⟨rfl, (Option.some.inj h).symm⟩⟩
      · simp [h1, h2] at h; exact ⟨s, q, hb, h1, .inr ⟨h2, h.symm⟩⟩
  · cases h
theorem relab_inj {L : Lab} {x d : Nat} (hi : ∀ b b' l, L b = some l → L b' = some l → b = b') : ∀ b b' l, relab L x d b = some l → relab L x d b' = some l → b = b' := by
  intro b b' l h1 h2
  obtain ⟨s1, q1, e1, n1, c1⟩ := relab_some h1
  obtain ⟨s2, q2, e2, n2, c2⟩ := relab_some h2
  rcases c1 with ⟨rfl, rfl⟩ | ⟨m1, rfl⟩ <;> rcases c2 with ⟨rfl, c2⟩ | ⟨m2, c2⟩
  · simp at c2; subst c2; exact hi _ _ _ e1 e2
  · simp at c2; exact absurd c2.1 (Ne.symm n2)
  · simp at c2; exact absurd c2.1 n1
  · simp at c2; obtain ⟨rfl, rfl⟩ := c2; exact hi _ _ _ e1 e2

theorem tm_put (a : Act) {d : Nat} (v : Value) (hd : d < a.tmps.size) (s : Nat) : (a.put (some d) v).tmps.getD s undef = if s = d then v else a.tmps.getD s undef := by
  simp only [Act.put, Array.getD_eq_getD_getElem?, Array.getElem?_setIfInBounds]
  by_cases h : d = s
  · subst h; simp [hd]
  · simp [h, Ne.symm h]


/-- New blocks, labelled for the place N. -/
theorem Rel.grow {σ : St} {a : Act} {w w' : World} {L L1 : Lab} (hR : Rel P N N w0 A I σ a w L) (hG : Grow N L w L1 w') : Rel P N (N + 1) w0 A I σ a w' L1 := by
  have hsz : w0.heap.size ≤ w.heap.size := hR.ev.size
  have hb : ∀ b l, L b = some l → b < w.heap.size := fun b l h => (hR.lab b l h).1
  have hz : ∀ b, Zof w0 A L w b → Zof w0 A L1 w' b ∧ w'.heap[b]? = w.heap[b]? := fun b ⟨h1, h2, h3⟩ =>
    ⟨⟨(hG.old b h2).trans h1, by have := hG.size; omega, h3⟩, hG.block b h2⟩
  have hlab : ∀ s b q, L b = some (s, q) → L1 b = some (s, q) ∧ w'.heap[b]? = w.heap[b]? := fun s b q hbq =>
    ⟨by rw [hG.old b (hb b _ hbq), hbq], hG.block b (hb b _ hbq)⟩
  refine ⟨hR.dfr, hR.siz, ?_, hG.inj, ?_, hR.out, hR.hA, ?_⟩
  · exact ⟨hG.os.trans hR.ev.os, hG.tape.trans hR.ev.tape, hG.output.trans hR.ev.output, Nat.le_trans hsz hG.size, fun b h1 h2 => (hG.block b (by omega)).trans (hR.ev.block b h1 h2)⟩
  · intro b l hl
    rcases Nat.lt_or_ge b w.heap.size with hlt | hge
    · rw [hG.old b hlt] at hl
      have := hR.lab b _ hl
      exact ⟨by have := hG.size; omega, this.2.1, by omega⟩
    · have := hG.new b hge _ hl
      exact ⟨this.2, .inl (by omega), by omega⟩
  · intro s
    exact (hR.slot s).keep hz (fun b q _ => hlab s b q) fun r _ hr => ⟨hlab r, rfl, hr, rfl⟩

/-- **What lies at the place N is laid into its slot.** -/
theorem Rel.put {σ : St} {a : Act} {w : World} {L : Lab} {d : Nat} {tv : Value} {sv : SV} (hR : Rel P N (N + 1) w0 A I σ a w L) (hd : d < N)
    (h : RelS P (Zof w0 A L w) L w (fun s => a.tmps.getD s undef) σ N tv sv) : Rel P N N w0 A I (put σ d sv) (a.put (some d) tv) w (relab L N d) := by
  have hda : d < a.tmps.size := hR.siz ▸ hd
  have hz : ∀ b, Zof w0 A L w b → Zof w0 A (relab L N d) w b ∧ w.heap[b]? = w.heap[b]? := fun b h => ⟨⟨by simp [relab, h.1], h.2⟩, rfl⟩
  have hlab : ∀ s, s ≠ d → s ≠ N → ∀ b q, L b = some (s, q) → relab L N d b = some (s, q) ∧ w.heap[b]? = w.heap[b]? := fun s h1 h2 b q hbq =>
    ⟨by simp [relab, hbq, h1, h2], rfl⟩
  have hdN : d ≠ N := by omega
  have rootN : ∀ r, isRoot (σ r) = true → r ≠ N := fun r hr e => by subst e; rw [hR.out r (Nat.le_refl _)] at hr; simp [isRoot] at hr
  have labN : ∀ r, isLab (σ r) = true → r ≠ N := fun r hr e => by subst e; rw [hR.out r (Nat.le_refl _)] at hr; simp [isLab] at hr
  have keep : ∀ r, r ≠ d → isRoot (σ r) = true → KeepAt L w (fun s => a.tmps.getD s undef) σ (relab L N d) w (fun s => (a.put (some d) tv).tmps.getD s undef) (Go.PV.put σ d sv) r := by
    intro r hrd hr
    have hput : Go.PV.put σ d sv r = σ r := by
      unfold Go.PV.put
      split
      · simp [updK, hrd, killSV_root hr]
      · simp [upd, hrd]
    exact ⟨hlab r hrd (rootN r hr), by simp only [tm_put a tv hda, if_neg hrd], by rw [hput]; exact hr, by rw [hput]⟩
  refine ⟨hR.dfr, by simp [Act.put, hR.siz], hR.ev, relab_inj hR.inj, ?_, ?_, hR.hA, ?_⟩
  · intro b l hl
    obtain ⟨s, q, e, n, c⟩ := relab_some hl
    have := hR.lab b _ e
    refine ⟨this.1, ?_⟩
    rcases c with ⟨rfl, rfl⟩ | ⟨hne, rfl⟩
    · exact ⟨this.2.1, hd⟩
    · have h3 := this.2.2
      simp only at h3 ⊢
      exact ⟨this.2.1, by omega⟩
  · intro s hs
    have hsd : s ≠ d := by omega
    unfold Go.PV.put
    split
    · simp [updK, hsd, hR.out s hs, killSV]
    · simp [upd, hsd, hR.out s hs]
  · intro s
    rw [tm_put a tv hda]
    by_cases hsd : s = d
    · subst hsd
      rw [if_pos rfl]
      have hres : ∀ sv', (sv' = sv ∧ (refOf sv = some s → isRoot (σ s) = false)) ∨ sv' = .u → RelS P (Zof w0 A (relab L N s) w) (relab L N s) w (fun x => (a.put (some s) tv).tmps.getD x undef) (Go.PV.put σ s sv) s tv sv' := by
        rintro sv' (⟨rfl, hne⟩ | rfl)
        · refine h.keep hz (fun b q _ hbq => ⟨by simp [relab, hbq, Ne.symm hdN], rfl⟩) fun r hr hrt => ?_
          refine keep r ?_ hrt
          rintro rfl
          rw [hne hr] at hrt
          cases hrt
        · trivial
      apply hres
      unfold Go.PV.put
      split
      · rcases killSV_or s sv with ⟨e, ne⟩ | e
        · exact .inl ⟨by simp [updK, e], fun h => absurd h ne⟩
        · exact .inr (by simp [updK, e])
      · rename_i hnr
        exact .inl ⟨by simp [upd], fun _ => by simpa using hnr⟩
    · rw [if_neg hsd]
      have h0 := hR.slot s
      have hres : ∀ sv', (sv' = σ s ∧ (refOf (σ s) = some d → isRoot (σ d) = false)) ∨ sv' = .u → RelS P (Zof w0 A (relab L N d) w) (relab L N d) w (fun x => (a.put (some d) tv).tmps.getD x undef) (Go.PV.put σ d sv) s (a.tmps.getD s undef) sv' := by
        rintro sv' (⟨rfl, hne⟩ | rfl)
        · refine h0.keep hz (fun b q hrt hbq => hlab s hsd (labN s hrt) b q hbq) fun r hr hrt => ?_
          refine keep r ?_ hrt
          rintro rfl
          rw [hne hr] at hrt
          cases hrt
        · trivial
      apply hres
      unfold Go.PV.put
      split
      · rcases killSV_or d (σ s) with ⟨e, ne⟩ | e
        · exact .inl ⟨by simp [updK, hsd, e], fun h => absurd h ne⟩
        · exact .inr (by simp [updK, hsd, e])
      · rename_i hnr
        exact .inl ⟨by simp [upd, hsd], fun _ => by simpa using hnr⟩

/-- The labels of r sent elsewhere, by f. -/
def mapL (L : Lab) (r : Nat) (f : Path → Option (Nat × Path)) : Lab := fun b => match L b with
  | some (s, q) => if s = r then f q else some (s, q)
  | none => none
theorem mapL_some {L : Lab} {r b : Nat} {f : Path → Option (Nat × Path)} {l : Nat × Path} (h : mapL L r f b = some l) : (∃ q, L b = some (r, q) ∧ f q = some l) ∨ (L b = some l ∧ l.1 ≠ r) := by
  unfold mapL at h
  split at h
  · rename_i s q hb
    by_cases h1 : s = r
    · subst h1; rw [if_pos rfl] at h; exact .inl ⟨q, hb, h⟩
    · rw [if_neg h1] at h; obtain rfl := Option.some.inj h; exact .inr ⟨hb, h1⟩
  · cases h

/-- What stands at r is taken away: its labels go where f says, and nothing else lies there. -/
theorem Rel.take {M M' : Nat} {σ : St} {a : Act} {w : World} {L : Lab} {r : Nat} {f : Path → Option (Nat × Path)} (hR : Rel P N M w0 A I σ a w L) (hM : M ≤ M') (hf0 : f [] = none)
    (hf : ∀ q l, f q = some l → l.1 < M' ∧ (∀ b, L b ≠ some l ∨ l.1 = r) ∧ ∀ q', f q' = some l → q = q') : Rel P N M' w0 A I (gone σ r) a w (mapL L r f) := by
  have hz : ∀ b, Zof w0 A L w b → Zof w0 A (mapL L r f) w b ∧ w.heap[b]? = w.heap[b]? := fun b h => ⟨⟨by simp [mapL, h.1], h.2⟩, rfl⟩
  have hlab : ∀ s, s ≠ r → ∀ b q, L b = some (s, q) → mapL L r f b = some (s, q) ∧ w.heap[b]? = w.heap[b]? := fun s h1 b q hbq => ⟨by simp [mapL, hbq, h1], rfl⟩
  refine ⟨hR.dfr, hR.siz, hR.ev, ?_, ?_, ?_, hR.hA, ?_⟩
  · intro b b' l h1 h2
    rcases mapL_some h1 with ⟨q1, e1, f1⟩ | ⟨e1, n1⟩ <;> rcases mapL_some h2 with ⟨q2, e2, f2⟩ | ⟨e2, n2⟩
    · obtain rfl := (hf q1 l f1).2.2 q2 f2
      exact hR.inj _ _ _ e1 e2
    · rcases (hf q1 l f1).2.1 b' with h | h
      · exact absurd e2 h
      · exact absurd h n2
    · rcases (hf q2 l f2).2.1 b with h | h
      · exact absurd e1 h
      · exact absurd h n1
    · exact hR.inj _ _ _ e1 e2
  · intro b l hl
    rcases mapL_some hl with ⟨q1, e1, f1⟩ | ⟨e1, n1⟩
    · have := hR.lab b _ e1
      refine ⟨this.1, ?_, (hf q1 l f1).1⟩
      rcases this.2.1 with h | ⟨_, h⟩
      · exact .inl h
      · simp only at h; subst h; rw [hf0] at f1; cases f1
    · have := hR.lab b _ e1
      exact ⟨this.1, this.2.1, by omega⟩
  · intro s hs
    unfold gone
    split
    · rfl
    · rw [hR.out s hs]; rfl
  · intro s
    unfold gone
    by_cases hsr : s = r
    · rw [if_pos hsr]; trivial
    · rw [if_neg hsr]
      rcases killSV_or r (σ s) with ⟨e, ne⟩ | e
      · rw [e]
        refine (hR.slot s).keep hz (fun b q _ => hlab s hsr b q) fun x hx hrt => ?_
        have hxr : x ≠ r := fun h => ne (h ▸ hx)
        refine ⟨hlab x hxr, rfl, ?_, ?_⟩
        · simp only [if_neg hxr, isRoot_killSV]; exact hrt
        · simp only [if_neg hxr, isBox_killSV]
      · rw [e]; trivial
end Go.PV
