/-
  A walk over pure values: assignments, boxes, results taken apart, calls that freeze.
  Conditions: none.
-/
import Derived.Test.YtlajjggemadajaaPvT
set_option linter.all false
namespace Go.PV
variable {P : Program} {N : Nat} {w0 : World} {A : Nat → Prop} {I : List Nat}

/-- What lies at the place N is let go. -/
theorem Rel.drop {σ : St} {a : Act} {w : World} {L : Lab} (hR : Rel P N (N + 1) w0 A I σ a w L) : ∃ L', Rel P N N w0 A I σ a w L' := by
  let L' : Lab := fun b => match L b with
    | some (s, q) => if s = N then none else some (s, q)
    | none => none
  have hsome : ∀ b l, L' b = some l → L b = some l ∧ l.1 ≠ N := by
    intro b l h
    simp only [L'] at h
    split at h
    · rename_i s q hb
      split at h
      · cases h
      · rename_i hn
        obtain rfl := Option.some.inj h
        exact ⟨hb, hn⟩
    · cases h
  have hkeep : ∀ s, s ≠ N → ∀ b q, L b = some (s, q) → L' b = some (s, q) ∧ w.heap[b]? = w.heap[b]? := fun s hs b q hb => ⟨by simp [L', hb, hs], rfl⟩
  have hz : ∀ b, Zof w0 A L w b → Zof w0 A L' w b ∧ w.heap[b]? = w.heap[b]? := fun b h => ⟨⟨by simp [L', h.1], h.2⟩, rfl⟩
  have rootN : ∀ r, isRoot (σ r) = true → r ≠ N := fun r hr e => by subst e; rw [hR.out r (Nat.le_refl _)] at hr; simp [isRoot] at hr
  have labN : ∀ r, isLab (σ r) = true → r ≠ N := fun r hr e => by subst e; rw [hR.out r (Nat.le_refl _)] at hr; simp [isLab] at hr
  refine ⟨L', hR.dfr, hR.siz, hR.ev, fun b b' l h1 h2 => hR.inj _ _ _ (hsome b l h1).1 (hsome b' l h2).1, fun b l h => ?_, hR.out, hR.hA, fun s => ?_⟩
  · have h1 := hR.lab b l (hsome b l h).1
    have h2 := (hsome b l h).2
    exact ⟨h1.1, h1.2.1, by omega⟩
  · refine (hR.slot s).keep hz (fun b q hr hb => ?_) fun r _ hr => ⟨hkeep r (rootN r hr), rfl, hr, rfl⟩
    exact hkeep s (labN s hr) b q hb

theorem putO_ok {σ : St} {a : Act} {w : World} {L : Lab} {tv : Value} {sv : SV} (hR : Rel P N (N + 1) w0 A I σ a w L) (h : RelS P (Zof w0 A L w) L w (tmOf a) σ N tv sv) (d : Option Tmp) (hd : ∀ k, d = some k → k < N) :
    ∃ L', Rel P N N w0 A I (putO d sv σ) (a.put d tv) w L' := by
  cases d with
  | none => exact hR.drop
  | some k => exact ⟨_, hR.put (hd k rfl) h⟩

/-- What stands at r is taken to the place N. -/
def toN (N : Nat) : Path → Option (Nat × Path)
  | [] => none
  | x :: q => some (N, x :: q)

theorem Rel.takeN {σ : St} {a : Act} {w : World} {L : Lab} (hR : Rel P N N w0 A I σ a w L) (r : Nat) : Rel P N (N + 1) w0 A I (gone σ r) a w (mapL L r (toN N)) :=
  hR.take (by omega) rfl fun q l h => by
    cases q with
    | nil => cases h
    | cons x q =>
      simp [toN] at h
      subst h
      refine ⟨by simp, fun b => .inl fun hb => ?_, fun q' h' => ?_⟩
      · have := (hR.lab b _ hb).2.2; simp at this
      · cases q' with
        | nil => cases h'
        | cons y q' => simp [toN] at h'; simp [h']

theorem trans_ok {σ : St} {a : Act} {w : World} {L : Lab} (hR : Rel P N N w0 A I σ a w L) {r d : Nat} {g : Bool} {cs : List C} (hr : σ r = .ov g cs) (hd : d < N) :
    ∃ L', Rel P N N w0 A I (trans σ r d) (a.put (some d) (tmOf a r)) w L' := by
  have h1 := hR.takeN r
  have hs := hR.slot r
  rw [hr] at hs
  refine ⟨relab (mapL L r (toN N)) N d, ?_⟩
  unfold trans
  refine h1.put hd ?_
  rw [hr]
  refine RepV.keep hs (fun b h => ⟨⟨by simp [mapL, h.1], h.2⟩, rfl⟩) fun b j q hb => ⟨by simp [mapL, hb, toN], rfl⟩

theorem transT_ok {σ : St} {a : Act} {w : World} {L : Lab} (hR : Rel P N N w0 A I σ a w L) {r d : Nat} {l : List SV} (hr : σ r = .tup l) (hd : d < N) :
    ∃ L', Rel P N N w0 A I (trans σ r d) (a.put (some d) (tmOf a r)) w L' := by
  have h1 := hR.takeN r
  have hs := hR.slot r
  rw [hr] at hs
  refine ⟨relab (mapL L r (toN N)) N d, ?_⟩
  unfold trans
  refine h1.put hd ?_
  rw [hr]
  have hz : ∀ b, Zof w0 A L w b → Zof w0 A (mapL L r (toN N)) w b ∧ w.heap[b]? = w.heap[b]? := fun b h => ⟨⟨by simp [mapL, h.1], h.2⟩, rfl⟩
  obtain ⟨arr, e1, e2, e3⟩ := hs
  refine ⟨arr, e1, e2, fun j y hj => ?_⟩
  have := e3 j y hj
  cases y with
  | p v => exact this
  | d g cs => exact FrzV.mono this hz
  | ov g cs => exact RepV.keep this hz fun b j q hb => ⟨by simp [mapL, hb, toN], rfl⟩
  | _ => trivial

/-- The same frame. -/
theorem Rel.same {M : Nat} {σ : St} {a a' : Act} {w : World} {L : Lab} (hR : Rel P N M w0 A I σ a w L) (hd : a'.defers = a.defers) (hs : a'.tmps.size = a.tmps.size) (ht : ∀ s, a'.tmps.getD s undef = a.tmps.getD s undef) :
    Rel P N M w0 A I σ a' w L := by
  have : (fun s => a'.tmps.getD s undef) = fun s => a.tmps.getD s undef := funext ht
  refine ⟨hd.trans hR.dfr, hs.trans hR.siz, hR.ev, hR.inj, hR.lab, hR.out, hR.hA, fun s => ?_⟩
  rw [this, ht]
  exact hR.slot s

/-- A whole value's alias is the very value. -/
theorem whole_ref {σ : St} {a : Act} {w : World} {L : Lab} (hR : Rel P N N w0 A I σ a w L) {s r : Nat} {n : Option Nat} {tv : Value} (h : RelS P (Zof w0 A L w) L w (tmOf a) σ s tv (.ref r [(0, 0)] n))
    {g : Bool} {cs : List C} (hr : σ r = .ov g cs ∨ σ r = .d g cs) (hn : n = if g then some cs.length else none) : tv = tmOf a r := by
  have hs := hR.slot r
  have hsh : VShape g (tmOf a r) cs.length := by
    rcases hr with hr | hr <;> rw [hr] at hs <;> exact hs.1
  obtain ⟨_, h⟩ := h
  rcases h with ⟨_, _, h3⟩ | ⟨q0, i, o, b, arr, e, hq, hbx, _⟩
  · subst hn
    cases g with
    | true => exact h3.1
    | false =>
      simp only [Bool.false_eq_true, if_false] at h3
      unfold VShape at hsh
      simp only [Bool.false_eq_true, if_false] at hsh
      rw [h3]
      show (tmOf a r).cells.getD 0 undef = _
      rw [hsh.1]
      rfl
  · have hq0 : q0 = [] := by
      have := congrArg List.length hq
      simp at this
      exact this
    have := hbx hq0
    rcases hr with hr | hr <;> rw [hr] at this <;> simp [isBox] at this

theorem asg_ok {σ : St} {a : Act} {w : World} {L : Lab} (hR : Rel P N N w0 A I σ a w L) {o : Oper} {d : Nat} {x : Operand} {K : St → Prop} (hd : d < N) (h : asgK P σ o d x K) :
    ∃ σ' L', K σ' ∧ Rel P N N w0 A I σ' (a.put (some d) (a.eval x)) w L' := by
  have put : ∀ {sv : SV}, K (Go.PV.put σ d sv) → RelS P (Zof w0 A L w) L w (tmOf a) σ N (a.eval x) sv → ∃ σ' L', K σ' ∧ Rel P N N w0 A I σ' (a.put (some d) (a.eval x)) w L' :=
    fun {sv} hk hs => ⟨_, _, hk, hR.up.put hd hs⟩
  unfold asgK at h
  split at h
  · obtain ⟨e, sz, _, hk⟩ := h
    refine put hk ⟨⟨rfl, rfl⟩, fun j c hj => ?_⟩
    cases j with
    | zero => simp at hj; subst hj; exact .onil
    | succ j => simp at hj
  · exact put h rfl
  · exact put h rfl
  · exact h.elim
  · rename_i t
    have hev := fun hx => evS_ok hR N (.tmp t) hx
    have hst := hR.slot t
    have anyS : ∀ {sv : SV}, σ t = sv → isLab sv = false → RelS P (Zof w0 A L w) L w (tmOf a) σ N (a.eval (.tmp t)) sv := fun {sv} hs hr => by
      have := hst
      rw [hs] at this
      refine RelS.keep (s := t) (tv := a.eval (.tmp t)) this (fun b h => ⟨h, rfl⟩) (fun b q h => by rw [hr] at h; cases h) fun r _ hrt => ⟨fun _ _ h => ⟨h, rfl⟩, rfl, hrt, rfl⟩
    split at h
    · rename_i g cs hs
      obtain ⟨hne, hk⟩ := h
      obtain ⟨L', hr⟩ := trans_ok hR hs hd
      exact ⟨_, _, hk, hr⟩
    · rename_i cs hs
      obtain ⟨hne, hk⟩ := h
      have := hev (by simp [evS, hs, noTup])
      rw [show evS σ (.tmp t) = .addr t [(0, 0)] from by simp [evS, hs]] at this
      exact put hk this
    · rename_i r q n hs
      have hrel := anyS hs rfl
      split at h
      · rename_i hrd
        subst hrd
        obtain ⟨hq, hn, hm, hk⟩ := h
        subst hq hn
        refine ⟨σ, L, hk, hR.same rfl (by simp [Act.put]) fun s => ?_⟩
        rw [tm_put a _ (hR.siz ▸ hd)]
        split
        · rename_i hsr
          subst hsr
          split at hm
          · rename_i c hss
            exact whole_ref hR hrel (.inl hss) rfl
          · exact hm.elim
        · rfl
      · rename_i hrd
        split at h
        · rename_i hq
          subst hq
          split at h
          · rename_i g cs hss
            obtain ⟨hn, hk⟩ := h
            obtain ⟨L', hr⟩ := trans_ok hR hss hd
            refine ⟨_, L', hk, ?_⟩
            rw [whole_ref hR hrel (.inl hss) hn]
            exact hr
          · rename_i g cs hss
            obtain ⟨hn, hk⟩ := h
            refine put hk ?_
            have h2 := hR.slot r
            rw [hss] at h2
            rw [whole_ref hR hrel (.inr hss) hn]
            exact h2
          · exact h.elim
        · exact put h hrel
    · exact h.elim
    · rename_i r q hs
      exact put h.2 (anyS hs rfl)
    · rename_i h1 h2 h3 h4 h5
      refine put h ?_
      cases hs : σ t with
      | u => trivial
      | p v => exact anyS hs rfl
      | d g cs => rw [hs] at hst; exact hst
      | fadr cs => exact anyS hs rfl
      | ov g cs => exact absurd hs (h1 g cs)
      | box cs => exact absurd hs (h2 cs)
      | ref r q n => exact absurd hs (h3 r q n)
      | tup l => exact absurd hs (h4 l)
      | addr r q => exact absurd hs (h5 r q)

theorem run_box {t : TypeId} (v : Value) (w : World) : (Instr.box t v).run P w = .ok (.pointer (some ⟨w.heap.size, 0, none⟩)) (w.alloc (.cells v.cells t)) := by
  simp [Instr.box, newVar, newRow]

/-- New memory in a state whose place N is taken already: its block bears a label of N too. -/
theorem Rel.alloc2 {σ : St} {a : Act} {w : World} {L : Lab} (hR : Rel P N (N + 1) w0 A I σ a w L) (cells : Array Value) (e : TypeId) (q : Path) (hfree : ∀ b, L b ≠ some (N, q)) :
    Rel P N (N + 1) w0 A I σ a (w.alloc (.cells cells e)) (lab1 L w.heap.size N q) := by
  have hb : ∀ b l, L b = some l → b < w.heap.size := fun b l h => (hR.lab b l h).1
  have hz : ∀ b, Zof w0 A L w b → Zof w0 A (lab1 L w.heap.size N q) (w.alloc (.cells cells e)) b ∧ (w.alloc (.cells cells e)).heap[b]? = w.heap[b]? := fun b ⟨h1, h2, h3⟩ =>
    ⟨⟨by simp [lab1, h1]; omega, by simp; omega, h3⟩, heap_alloc_old w _ b h2⟩
  have hlab : ∀ s b q', L b = some (s, q') → lab1 L w.heap.size N q b = some (s, q') ∧ (w.alloc (.cells cells e)).heap[b]? = w.heap[b]? := fun s b q' h =>
    ⟨by have := hb b _ h; simp [lab1, h]; omega, heap_alloc_old w _ b (hb b _ h)⟩
  have hsz := hR.ev.size
  refine ⟨hR.dfr, hR.siz, ⟨hR.ev.os, hR.ev.tape, hR.ev.output, by simp; omega, fun b h1 h2 => (heap_alloc_old w _ b (by omega)).trans (hR.ev.block b h1 h2)⟩, ?_, ?_, hR.out, hR.hA, fun s => ?_⟩
  · intro b b' l h1 h2
    simp only [lab1] at h1 h2
    split at h1 <;> split at h2
    · omega
    · obtain rfl := Option.some.inj h1; exact absurd h2 (hfree b')
    · obtain rfl := Option.some.inj h2; exact absurd h1 (hfree b)
    · exact hR.inj _ _ _ h1 h2
  · intro b l h
    simp only [lab1] at h
    split at h
    · obtain rfl := Option.some.inj h; subst b; exact ⟨by simp, .inl hsz, by simp⟩
    · have := hR.lab b l h; exact ⟨by simp; omega, this.2⟩
  · exact (hR.slot s).keep hz (fun b q' _ h => hlab s b q' h) fun r _ hr => ⟨hlab r, rfl, hr, rfl⟩

theorem box_ok {σ : St} {a : Act} {w : World} {L : Lab} (hR : Rel P N N w0 A I σ a w L) {x : Operand} {t : TypeId} {cs : List C} {mv : Option Nat} (hm : mvCells σ (evS σ x) = some (cs, mv)) :
    ∃ v w' L1, (Instr.box t (a.eval x)).run P w = .ok v w' ∧ Rel P N (N + 1) w0 A I (goneO σ mv) a w' L1 ∧ RelS P (Zof w0 A L1 w') L1 w' (tmOf a) (goneO σ mv) N v (.box cs) := by
  have hx : noTup (evS σ x) = true := by cases hx : evS σ x <;> simp_all [noTup, mvCells]
  obtain ⟨hsz, hv⟩ := mv_ok hR (evS_ok hR 0 x hx) hm
  rcases hv with ⟨rfl, hf⟩ | ⟨r, g, rfl, hr, htv, hf⟩
  · have h1 := hR.alloc (a.eval x).cells t []
    refine ⟨_, _, _, run_box _ w, h1, w.heap.size, rfl, by simp [lab1], _, t, heap_alloc_at _ _, hsz, fun j c hj => .frz ((hf j c hj).mono fun b ⟨h2, h3, h4⟩ => ?_)⟩
    exact ⟨⟨by simp [lab1, h2]; omega, by simp; omega, h4⟩, heap_alloc_old w _ b h3⟩
  · have h0 := hR.takeN r
    have h1 := h0.alloc2 (a.eval x).cells t [] (fun b hb => by
      rcases mapL_some hb with ⟨q, _, hq⟩ | ⟨hb, _⟩
      · cases q <;> simp [toN] at hq
      · have := (hR.lab b _ hb).2.2; simp at this)
    refine ⟨_, _, _, run_box _ w, h1, w.heap.size, rfl, by simp [lab1], _, t, heap_alloc_at _ _, hsz, fun j c hj => ?_⟩
    refine (hf j c hj).move [(0, j)] (fun b ⟨h2, h3, h4⟩ => ⟨⟨by simp [lab1, mapL, h2]; omega, by simp; omega, h4⟩, heap_alloc_old w _ b h3⟩) fun b q hb => ?_
    have := (hR.lab b _ hb).1
    refine ⟨?_, heap_alloc_old w _ b this⟩
    simp only [List.singleton_append] at hb ⊢
    simp [lab1, mapL, hb, toN]
    omega

/-- A component of a result that is taken out. -/
def toNk (N k : Nat) : Path → Option (Nat × Path)
  | (i, o) :: q => if i = k then some (N, (0, o) :: q) else none
  | [] => none

theorem extract_ok {σ : St} {a : Act} {w : World} {L : Lab} (hR : Rel P N N w0 A I σ a w L) {t k : Nat} {l : List SV} {g : Bool} {cs : List C} (ht : σ t = .tup l) (hk : l[k]? = some (.ov g cs)) :
    ∃ v L1, (Instr.extract (tmOf a t) k).run P w = .ok v w ∧ Rel P N (N + 1) w0 A I (upd σ t (.tup (l.set k .u))) a w L1 ∧ RelS P (Zof w0 A L1 w) L1 w (tmOf a) (upd σ t (.tup (l.set k .u))) N v (.ov g cs) := by
  have hs := hR.slot t
  rw [ht] at hs
  obtain ⟨arr, h1, h2, h3⟩ := hs
  have hkl : k < l.length := (List.getElem?_eq_some_iff.1 hk).1
  have h4 := h3 k _ hk
  let L1 : Lab := fun b => match L b with
    | some (s, q) => if s = t then (match q with
        | (i, o) :: q' => if i = k then some (N, (0, o) :: q') else some (t, (i, o) :: q')
        | [] => some (t, [])) else some (s, q)
    | none => none
  have hsome : ∀ b l, L1 b = some l → (∃ o q', L b = some (t, (k, o) :: q') ∧ l = (N, (0, o) :: q')) ∨ (L b = some l ∧ (l.1 = t → ∀ o q', l.2 ≠ (k, o) :: q')) := by
    intro b l h
    simp only [L1] at h
    split at h
    · rename_i s q hb
      split at h
      · rename_i hst
        subst hst
        split at h
        · rename_i i o q'
          split at h
          · rename_i hik
            subst hik
            obtain rfl := Option.some.inj h
            exact .inl ⟨o, q', hb, rfl⟩
          · rename_i hik
            obtain rfl := Option.some.inj h
            exact .inr ⟨hb, fun _ o' q'' h => by simp at h; exact hik h.1.1⟩
        · obtain rfl := Option.some.inj h
          exact .inr ⟨hb, fun _ o' q'' h => by simp at h⟩
      · rename_i hst
        obtain rfl := Option.some.inj h
        exact .inr ⟨hb, fun h => absurd h hst⟩
    · cases h
  have hkeep : ∀ b s q, L b = some (s, q) → (s = t → ∀ o q', q ≠ (k, o) :: q') → L1 b = some (s, q) ∧ w.heap[b]? = w.heap[b]? := by
    intro b s q hb hn
    refine ⟨?_, rfl⟩
    simp only [L1, hb]
    split
    · rename_i hst
      subst hst
      split
      · rename_i i o q'
        rw [if_neg]
        rintro rfl
        exact hn rfl o q' rfl
      · rfl
    · rfl
  have hz : ∀ b, Zof w0 A L w b → Zof w0 A L1 w b ∧ w.heap[b]? = w.heap[b]? := fun b h => ⟨⟨by simp [L1, h.1], h.2⟩, rfl⟩
  have htN : t < N := by
    rcases Nat.lt_or_ge t N with h | h
    · exact h
    · rw [hR.out t h] at ht; cases ht
  refine ⟨arr.getD k undef, L1, ?_, ⟨hR.dfr, hR.siz, hR.ev, ?_, ?_, ?_, hR.hA, fun s => ?_⟩, ?_⟩
  · rw [show tmOf a t = .tuple arr from h1]
    simp [Instr.extract, show k < arr.size by omega]
  · intro b b' l' e1 e2
    rcases hsome b l' e1 with ⟨o, q', f1, g1⟩ | ⟨f1, g1⟩ <;> rcases hsome b' l' e2 with ⟨o2, q2, f2, g2⟩ | ⟨f2, g2⟩
    · subst g1; simp at g2
      obtain ⟨rfl, rfl⟩ := g2
      exact hR.inj _ _ _ f1 f2
    · subst_vars; have := (hR.lab b' _ f2).2.2; simp at this
    · subst g2
      have := (hR.lab b _ f1).2.2; simp at this
    · exact hR.inj _ _ _ f1 f2
  · intro b l' e1
    rcases hsome b l' e1 with ⟨o, q', f1, rfl⟩ | ⟨f1, g1⟩
    · have := hR.lab b _ f1
      refine ⟨this.1, ?_, by simp⟩
      rcases this.2.1 with h | ⟨_, h⟩
      · exact .inl h
      · simp at h
    · have := hR.lab b _ f1
      exact ⟨this.1, this.2.1, by omega⟩
  · intro s hs
    have : s ≠ t := by omega
    simp [upd, this, hR.out s hs]
  · by_cases hst : s = t
    · subst hst
      simp only [upd, if_true]
      refine ⟨arr, h1, by simpa using h2, fun j y hj => ?_⟩
      rw [List.getElem?_set] at hj
      by_cases hjk : k = j
      · subst hjk
        simp [hkl] at hj
        subst hj
        trivial
      · rw [if_neg hjk] at hj
        have h5 := h3 j y hj
        cases y with
        | p v => exact h5
        | d g cs => exact FrzV.mono h5 hz
        | ov g cs => exact RepV.keep h5 hz fun b jj q hb => hkeep b s _ hb (fun _ o' q' h => by simp at h; exact hjk h.1.1.symm)
        | _ => trivial
    · have e : upd σ t (.tup (l.set k .u)) s = σ s := by simp [upd, hst]
      rw [e]
      refine (hR.slot s).keep hz (fun b q _ hb => hkeep b s q hb (fun h => absurd h hst)) fun r hr hrt => ?_
      by_cases hrt2 : r = t
      · subst hrt2
        rw [ht] at hrt
        simp [isRoot] at hrt
      · exact ⟨fun b q hb => hkeep b r q hb (fun h => absurd h hrt2), rfl, by simp [upd, hrt2]; exact hrt, by simp [upd, hrt2]⟩
  · exact RepV.keep h4 hz fun b j q hb => ⟨by simp [L1, hb], rfl⟩
end Go.PV
