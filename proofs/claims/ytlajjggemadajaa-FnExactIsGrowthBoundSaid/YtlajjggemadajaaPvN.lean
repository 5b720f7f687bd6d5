/-
  A walk over pure values: freezing; calls.
  Conditions: none.
-/
import Derived.Test.YtlajjggemadajaaPvM
set_option linter.all false
namespace Go.PV
variable {P : Program} {N : Nat} {w0 : World} {A : Nat → Prop} {I : List Nat}

def frzL (r : Nat) (L : Lab) : Lab := fun b => match L b with
  | some (s, q) => if s = r ∧ q ≠ [] then none else some (s, q)
  | none => none
theorem frzL_some {L : Lab} {r b : Nat} {l : Nat × Path} (h : frzL r L b = some l) : L b = some l ∧ ¬ (l.1 = r ∧ l.2 ≠ []) := by
  unfold frzL at h
  split at h
  · rename_i s q hb
    split at h
    · cases h
    · rename_i hn
      obtain rfl := Option.some.inj h
      exact ⟨hb, hn⟩
  · cases h

theorem eraR_get {cs : List C} {j : Nat} {c : C} (h : (eraR cs)[j]? = some c) : ∃ c0, cs[j]? = some c0 ∧ c = era c0 := by
  rw [eraR_map, List.getElem?_map] at h
  cases hj : cs[j]? with
  | none => simp [hj] at h
  | some c0 => simp [hj] at h; exact ⟨c0, rfl, h.symm⟩

theorem Rel.frz {M : Nat} {σ : St} {a : Act} {w : World} {L : Lab} (hR : Rel P N M w0 A I σ a w L) (r : Nat) :
    ∃ L', Rel P N M w0 A I (frz r σ) a w L' ∧ (∀ b, Zof w0 A L w b → Zof w0 A L' w b) ∧ (isTup (σ r) = false → ∀ q b, q ≠ [] → L b = some (r, q) → Zof w0 A L' w b) ∧ (∀ s b q, s ≠ r → L b = some (s, q) → L' b = some (s, q)) := by
  cases ht : isTup (σ r) with
  | true => exact ⟨L, by unfold Go.PV.frz; rw [ht]; exact hR, fun _ h => h, fun h => (by cases h), fun _ _ _ _ h => h⟩
  | false =>
    have hz : ∀ b, Zof w0 A L w b → Zof w0 A (frzL r L) w b ∧ w.heap[b]? = w.heap[b]? := fun b h => ⟨⟨by simp [frzL, h.1], h.2⟩, rfl⟩
    have hzr : ∀ q b, q ≠ [] → L b = some (r, q) → Zof w0 A (frzL r L) w b := fun q b hq hb => by
      have h1 := hR.lab b _ hb
      refine ⟨by simp [frzL, hb, hq], h1.1, .inr ?_⟩
      rcases h1.2.1 with h | ⟨_, h⟩
      · exact h
      · exact absurd h hq
    have hlab : ∀ s, s ≠ r → ∀ b q, L b = some (s, q) → frzL r L b = some (s, q) ∧ w.heap[b]? = w.heap[b]? := fun s h1 b q hb => ⟨by simp [frzL, hb, h1], rfl⟩
    have hlab0 : ∀ b s, L b = some (s, []) → frzL r L b = some (s, []) := fun b s hb => by simp [frzL, hb]
    have hσ : Go.PV.frz r σ = fun s => if s = r then frzSV (σ s) else killD r (σ s) := by unfold Go.PV.frz; rw [ht]; rfl
    have hroot : ∀ x, isRoot (σ x) = true → isRoot (Go.PV.frz r σ x) = true ∧ isBox (Go.PV.frz r σ x) = isBox (σ x) := by
      intro x hx
      rw [hσ]
      simp only []
      by_cases hxr : x = r
      · subst hxr
        rw [if_pos rfl]
        cases h : σ x <;> rw [h] at hx ht <;> simp_all [frzSV, isRoot, isBox, isTup]
      · rw [if_neg hxr]
        cases h : σ x <;> rw [h] at hx <;> simp_all [killD, isRoot, isBox]
    refine ⟨frzL r L, ⟨hR.dfr, hR.siz, hR.ev, ?_, ?_, ?_, hR.hA, ?_⟩, fun b h => (hz b h).1, fun _ => hzr, fun s b q h1 h2 => (hlab s h1 b q h2).1⟩
    · exact fun b b' l h1 h2 => hR.inj _ _ _ (frzL_some h1).1 (frzL_some h2).1
    · exact fun b l h => hR.lab b l (frzL_some h).1
    · intro s hs
      rw [hσ]
      simp only [hR.out s hs]
      split <;> rfl
    · intro s
      have h0 := hR.slot s
      by_cases hsr : s = r
      · subst hsr
        have e : Go.PV.frz s σ s = frzSV (σ s) := by rw [hσ]; simp
        rw [e]
        cases hs : σ s with
        | ov g cs =>
          rw [hs] at h0
          refine ⟨by rw [eraR_map, List.length_map]; exact h0.1, fun j c hj => ?_⟩
          obtain ⟨c0, h1, rfl⟩ := eraR_get hj
          exact (h0.2 j c0 h1).freeze hz fun b q hb => ⟨hzr _ b (by simp) hb, rfl⟩
        | box cs =>
          rw [hs] at h0
          obtain ⟨b, h1, h2, arr, ee, h3, h4, h5⟩ := h0
          refine ⟨b, h1, hlab0 b s h2, arr, ee, h3, by rw [eraR_map, List.length_map]; exact h4, fun j c hj => ?_⟩
          obtain ⟨c0, h6, rfl⟩ := eraR_get hj
          exact .frz ((h5 j c0 h6).freeze hz fun b q hb => ⟨hzr _ b (by simp) hb, rfl⟩)
        | tup l => rw [hs] at ht; simp [isTup] at ht
        | u => trivial
        | p v => rw [hs] at h0; exact h0
        | d g cs => rw [hs] at h0; exact FrzV.mono h0 hz
        | fadr cs => rw [hs] at h0; exact RelS.keep (sv := .fadr cs) h0 hz (fun _ _ h => by cases h) (fun _ h => by cases h)
        | ref r' q n =>
          rw [hs] at h0
          have hne : r' ≠ s := fun h => by subst h; have := h0.1; rw [hs] at this; simp [isRoot] at this
          exact RelS.keep (sv := .ref r' q n) h0 hz (fun _ _ h => by cases h) (fun x hx hxr => by
            simp only [refOf, Option.some.injEq] at hx; subst hx
            exact ⟨hlab r' hne, rfl, (hroot r' hxr).1, (hroot r' hxr).2⟩)
        | addr r' q =>
          rw [hs] at h0
          have hne : r' ≠ s := fun h => by subst h; have := h0.1; rw [hs] at this; simp [isRoot] at this
          exact RelS.keep (sv := .addr r' q) h0 hz (fun _ _ h => by cases h) (fun x hx hxr => by
            simp only [refOf, Option.some.injEq] at hx; subst hx
            exact ⟨hlab r' hne, rfl, (hroot r' hxr).1, (hroot r' hxr).2⟩)
      · have e : Go.PV.frz r σ s = killD r (σ s) := by rw [hσ]; simp [hsr]
        rw [e]
        have whole : refOf (σ s) ≠ some r → RelS P (Zof w0 A (frzL r L) w) (frzL r L) w (fun x => a.tmps.getD x undef) (Go.PV.frz r σ) s (a.tmps.getD s undef) (σ s) := fun hne =>
          h0.keep hz (fun b q _ hb => hlab s hsr b q hb) fun x hx hxr => ⟨hlab x (fun h => hne (h ▸ hx)), rfl, (hroot x hxr).1, (hroot x hxr).2⟩
        cases hs : σ s with
        | ref r' q n =>
          by_cases hr' : r' = r
          · subst hr'
            simp only [killD, if_true]
            by_cases hq : q = [(0, 0)]
            · rw [if_pos hq]
              rw [hs] at h0
              obtain ⟨h1, h2⟩ := h0
              refine ⟨(hroot r' h1).1, ?_⟩
              rcases h2 with ⟨h3, h4, h5⟩ | ⟨q0, i, o, b, arr, ee, h3, hbx, h4, h5, h6⟩
              · exact .inl ⟨by rw [(hroot r' h1).2]; exact h3, h4, h5⟩
              · subst hq
                have hq0 : q0 = [] := by
                  have := congrArg List.length h3
                  simp at this
                  exact this
                subst hq0
                exact .inr ⟨[], i, o, b, arr, ee, h3, fun h => by rw [(hroot r' h1).2]; exact hbx h, hlab0 b r' h4, h5, h6⟩
            · rw [if_neg hq]; trivial
          · simp only [killD, if_neg hr']
            have := whole (by rw [hs]; simp [refOf, hr'])
            rwa [hs] at this
        | addr r' q =>
          by_cases hr' : r' = r
          · subst hr'
            simp only [killD, if_true]
            split
            · rename_i x
              rw [hs] at h0
              obtain ⟨h1, q0, i, o, b, arr, ee, h3, hbx, h4, h5, h6⟩ := h0
              have hq0 : q0 = [] := by
                have := congrArg List.length h3
                simp at this
                exact this
              subst hq0
              exact ⟨(hroot r' h1).1, [], i, o, b, arr, ee, h3, fun h => by rw [(hroot r' h1).2]; exact hbx h, hlab0 b r' h4, h5, h6⟩
            · trivial
          · simp only [killD, if_neg hr']
            have := whole (by rw [hs]; simp [refOf, hr'])
            rwa [hs] at this
        | _ =>
          have := whole (by rw [hs]; simp [refOf])
          rw [hs] at this
          exact this

theorem frz_tup {r x : Nat} {σ : St} (h : isTup (σ x) = false) : isTup (frz r σ x) = false := by
  unfold frz
  split
  · exact h
  · by_cases hx : x = r
    · simp only [if_pos hx]; cases hs : σ x <;> simp_all [frzSV, isTup]
    · simp only [if_neg hx]
      cases hs : σ x with
      | ref r' q n => simp only [killD]; split <;> (try split) <;> rfl
      | addr r' q => simp only [killD]; split <;> (try split) <;> rfl
      | tup l => rw [hs] at h; exact h
      | _ => rfl

theorem frzL_keep {M : Nat} {σ : St} {a : Act} {w : World} {L : Lab} (hR : Rel P N M w0 A I σ a w L) : ∀ (R : List Nat), (∀ r ∈ R, isTup (σ r) = false) →
    ∃ L', Rel P N M w0 A I (frzAll R σ) a w L' ∧ (∀ b, Zof w0 A L w b → Zof w0 A L' w b) ∧ (∀ r ∈ R, ∀ q b, q ≠ [] → L b = some (r, q) → Zof w0 A L' w b)
  | [], _ => ⟨L, hR, fun _ h => h, fun r hr => by cases hr⟩
  | r :: R, ht => by
    obtain ⟨L1, h1, h2, h3, h7⟩ := hR.frz r
    have hno := ht r (by simp)
    -- what is labelled for another stays labelled or is frozen
    obtain ⟨L2, h4, h5, h6⟩ := frzL_keep h1 R (fun x hx => frz_tup (ht x (by simp [hx])))
    refine ⟨L2, h4, fun b h => h5 b (h2 b h), fun x hx q b hq hb => ?_⟩
    rcases List.mem_cons.1 hx with rfl | hx'
    · exact h5 b (h3 hno q b hq hb)
    · by_cases hxr : x = r
      · subst hxr; exact h5 b (h3 hno q b hq hb)
      · exact h6 x hx' q b hq (h7 x b q hxr hb)

/-! ### calls -/
theorem Rep.move_own {Z Z' : Nat → Prop} {L L' : Lab} {w w' : World} {s s' : Nat} {p : Path} {v : Value} {c : C} (h : Rep P Z L w s p v c) :
    ∀ (p' : Path), wnC c = true → (∀ b q, L b = some (s, p ++ q) → L' b = some (s', p' ++ q) ∧ w'.heap[b]? = w.heap[b]?) → Rep P Z' L' w' s' p' v c := by
  induction h with
  | frz h =>
    intro p' hc _
    cases h with
    | raw h => exact .frz (.raw h)
    | nil => simp [wnC] at hc
    | sl => simp [wnC] at hc
    | fn => simp [wnC] at hc
    | pt => simp [wnC] at hc
    | dead => simp [wnC] at hc
  | onil => exact fun _ _ _ => .onil
  | @own p g cap arr e rows hl hg hn hm ha hsz hr ih =>
    intro p' hc hL
    have h0 := hL g [] (by simpa using hl)
    simp only [List.append_nil] at h0
    have hall : ∀ (l : List (List C)), wnL l = true → ∀ row ∈ l, wnR row = true := by
      intro l
      induction l with
      | nil => simp
      | cons r l ih => intro h row hrow; simp [wnL] at h; rcases List.mem_cons.1 hrow with rfl | h'; exact h.1; exact ih h.2 row h'
    have hall2 : ∀ (l : List C), wnR l = true → ∀ c ∈ l, wnC c = true := by
      intro l
      induction l with
      | nil => simp
      | cons r l ih => intro h row hrow; simp [wnR] at h; rcases List.mem_cons.1 hrow with rfl | h'; exact h.1; exact ih h.2 row h'
    simp [wnC] at hc
    refine .own h0.1 (h0.2.trans hg) hn hm ha hsz fun i row o c h1 h2 => ?_
    refine ih i row o c h1 h2 (p' ++ [(i, o)]) (hall2 _ (hall _ hc _ (List.mem_of_getElem? h1)) _ (List.mem_of_getElem? h2)) fun b q hb => ?_
    have := hL b ((i, o) :: q) (by simpa using hb)
    simpa using this

theorem wnR_mem {l : List C} (h : wnR l = true) {c : C} (hc : c ∈ l) : wnC c = true := by
  induction l with
  | nil => cases hc
  | cons r l ih => simp [wnR] at h; rcases List.mem_cons.1 hc with rfl | h'; exact h.1; exact ih h.2 h'

/-- The values that a struct's reference stands for. -/
theorem ref_agg {σ : St} {a : Act} {w : World} {L : Lab} (hR : Rel P N N w0 A I σ a w L) {s r k : Nat} {q : Path} {tv : Value} {cs : List C}
    (h : RelS P (Zof w0 A L w) L w (tmOf a) σ s tv (.ref r q (some k))) (hg : getRow (rows1 (σ r)) q = some cs) (hk : k ≤ cs.length) :
    VShape true tv k ∧ ∀ (j : Nat) (c : C), (cs.take k)[j]? = some c → ∃ p, p ≠ [] ∧ Rep P (Zof w0 A L w) L w r p (tv.cells.getD j undef) c := by
  obtain ⟨hroot, h⟩ := h
  rcases rows1_cases (σ r) with h0 | ⟨cs0, h0⟩
  · rw [h0] at hg
    cases q with
    | nil => simp [getRow] at hg
    | cons y q => cases q <;> (obtain ⟨y1, y2⟩ := y; simp [getRow] at hg)
  · obtain ⟨rd, hkids, hv, hbx⟩ := root_kids hR h0
    rw [h0] at hg
    rcases h with ⟨hnb, rfl, h3⟩ | ⟨q0, i, o, b, arr, e, rfl, hb, hl, hh, h3⟩
    · obtain ⟨row, h1, h2⟩ := getRow_one hg
      simp at h1
      subst h1
      simp at h2
      subst h2
      obtain ⟨h4, h5⟩ := h3
      refine ⟨h5, fun j c hj => ?_⟩
      obtain ⟨hjk, hj'⟩ := take_get hj
      have := hkids 0 cs 0 c
      have h6 := hkids 0 cs j c rfl hj'
      rw [(hv hnb).2 j (by omega)] at h6
      rw [h4]
      exact ⟨_, by simp, h6⟩
    · simp only at h3
      have fin : ∀ {rows' : List (List C)} {row : List C}, NodeB P (Zof w0 A L w) L w r q0 b arr e rows' → rows'[i]? = some row → cs = row.drop o →
          VShape true tv k ∧ ∀ (j : Nat) (c : C), (cs.take k)[j]? = some c → ∃ p, p ≠ [] ∧ Rep P (Zof w0 A L w) L w r p (tv.cells.getD j undef) c := by
        intro rows' row hn h1 h2
        subst h2
        have hin : ∀ j, j < k → i * esz P e + (o + j) < arr.size := fun j hj => hn.inb i row (o + j) h1 (by simp at hk; omega)
        have hsz : k = 0 ∨ i * esz P e + o + k ≤ arr.size := by
          rcases Nat.eq_zero_or_pos k with h | h
          · exact .inl h
          · right; have := hin (k - 1) (by omega); omega
        subst h3
        refine ⟨⟨_, rfl, ?_⟩, fun j c hj => ?_⟩
        · simp; omega
        · obtain ⟨hjk, hj'⟩ := take_get hj
          have := (hn.cell h1 (drop_get hj')).2
          refine ⟨q0 ++ [(i, o + j)], by simp, ?_⟩
          have e1 : (Value.agg (arr.extract (i * esz P e + o) (i * esz P e + o + k))).cells.getD j undef = arr.getD (i * esz P e + (o + j)) undef := by
            have h4 := hin j hjk
            simp only [Value.cells, Array.getD_eq_getD_getElem?]
            rw [Array.getElem?_extract]
            rw [if_pos (by omega), Nat.add_assoc]
          rw [e1]
          exact this
      by_cases hq : q0 = []
      · subst hq
        obtain ⟨b', arr', e', hn, _, _⟩ := hbx (hb rfl)
        obtain rfl := hR.inj _ _ _ hl hn.lab
        rw [hn.heap] at hh
        simp at hh
        obtain ⟨rfl, rfl⟩ := hh
        obtain ⟨row, h1, h2⟩ := getRow_one hg
        exact fin hn h1 h2
      · obtain ⟨b', arr', e', rows', row, hn, h1, h2⟩ := getRow_node q0 _ [] rd hkids hq hg
        simp only [List.nil_append] at hn
        obtain rfl := hR.inj _ _ _ hl hn.lab
        rw [hn.heap] at hh
        simp at hh
        obtain ⟨rfl, rfl⟩ := hh
        exact fin hn h1 h2

/-- What a call may read. -/
def Reads (w0 : World) (A : Nat → Prop) (L : Lab) (w : World) (R : List Nat) : Nat → Prop := fun b => Zof w0 A L w b ∨ ∃ r ∈ R, ∃ q, q ≠ [] ∧ L b = some (r, q)

/-- An argument, by its data. -/
def ArgV (Z : Nat → Prop) (w : World) (v : Value) : Arg → Prop
  | .v x => v = x
  | .d g cs => FrzV Z w g v cs
  | .ptr _ => False

theorem mkA_ok {Z : Nat → Prop} {w : World} {g : Bool} {v : Value} {cs : List C} (h : FrzV Z w g v cs) : ArgV Z w v (mkA g cs) := by
  unfold mkA
  cases hr : raws cs with
  | none => exact h
  | some vs =>
    simp only []
    show v = mkV g vs
    have hcs := raws_get hr
    subst hcs
    obtain ⟨h1, h2⟩ := h
    simp only [List.length_map] at h1
    have hj : ∀ j x, vs[j]? = some x → v.cells.getD j undef = x := fun j x hx => (h2 j (.raw x) (by simp [hx])).raw_eq
    unfold VShape at h1
    cases g with
    | true =>
      simp only [if_true] at h1
      obtain ⟨arr, rfl, hs⟩ := h1
      simp only [mkV, if_true]
      congr 1
      apply Array.ext'
      apply List.ext_getElem?
      intro j
      simp only [Value.cells] at hj
      cases hx : vs[j]? with
      | none => have := List.getElem?_eq_none_iff.1 hx; simp; omega
      | some x =>
        have hlt := (List.getElem?_eq_some_iff.1 hx).1
        have := hj j x hx
        rw [Array.getD_eq_getD_getElem?, Array.getElem?_eq_getElem (by omega)] at this
        simp at this
        simp [hx, show j < arr.size by omega, this]
    | false =>
      simp only [Bool.false_eq_true, if_false] at h1
      match vs, h1.2 with
      | [x], _ =>
        have := hj 0 x rfl
        rw [h1.1] at this
        simpa [mkV] using this

theorem toArg_addr {rt : Nat → SV} {r : Nat} {q : Path} {arg : Arg} (h : toArg rt (.addr r q) = some arg) : ∃ cs, arg = .ptr cs := by
  rcases q with _ | ⟨⟨i, o⟩, _ | ⟨y, q⟩⟩
  · simp [toArg] at h
  · cases i <;> cases o <;> simp [toArg] at h
    cases hr : rt r <;> simp [hr] at h
    exact ⟨_, h.symm⟩
  · simp [toArg] at h

theorem toArg_ok {σ : St} {a : Act} {w : World} {L : Lab} (hR : Rel P N N w0 A I σ a w L) {R : List Nat} {rt : Nat → SV} (hrt : ∀ r, rt r = σ r ∨ rt r = .u) {s : Nat} {tv : Value} {sv : SV} {arg : Arg}
    (h : RelS P (Zof w0 A L w) L w (tmOf a) σ s tv sv) (ha : toArg rt sv = some arg) (hp : sOp.notPtr arg = true) (hr : ∀ r ∈ rootOf sv, r ∈ R) :
    ArgV (Reads w0 A L w R) w tv arg ∧ (∀ r ∈ rootOf sv, isTup (σ r) = false) := by
  have hz : ∀ b, Zof w0 A L w b → Reads w0 A L w R b ∧ w.heap[b]? = w.heap[b]? := fun b h => ⟨.inl h, rfl⟩
  cases sv with
  | p v => simp [toArg] at ha; subst ha; exact ⟨h, fun r hr => by cases hr⟩
  | d g cs => simp [toArg] at ha; subst ha; exact ⟨FrzV.mono h hz, fun r hr => by cases hr⟩
  | fadr cs => simp [toArg] at ha; subst ha; exact ⟨FrzV.mono (fadr_pt h) hz, fun r hr => by cases hr⟩
  | ref r q n =>
    simp only [toArg] at ha
    have hrR : r ∈ R := hr r (by simp [rootOf])
    have hfz : ∀ {p : Path} {v : Value} {c : C}, p ≠ [] → Rep P (Zof w0 A L w) L w r p v c → Frz (Reads w0 A L w R) w v (era c) := fun {p v c} hp hrep =>
      hrep.freeze hz fun b q hb => ⟨.inr ⟨r, hrR, _, by simp [hp], hb⟩, rfl⟩
    split at ha
    · rename_i g cs hd
      obtain rfl := Option.some.inj ha
      simp only [deref] at hd
      have hntup : ∀ cs, getRow (rows1 (rt r)) q = some cs → rt r = σ r ∧ isTup (σ r) = false := by
        intro cs hg
        rcases hrt r with e | e
        · refine ⟨e, ?_⟩
          rw [e] at hg
          cases hs : σ r with
          | tup l =>
            rw [hs] at hg
            cases q with
            | nil => simp [getRow] at hg
            | cons y q => cases q <;> (obtain ⟨y1, y2⟩ := y; simp [getRow, rows1] at hg)
          | _ => rfl
        · rw [e] at hg
          cases q with
          | nil => simp [getRow] at hg
          | cons y q => cases q <;> (obtain ⟨y1, y2⟩ := y; simp [getRow, rows1] at hg)
      split at hd
      · rename_i c cs' hg
        simp at hd
        obtain ⟨rfl, rfl⟩ := hd
        obtain ⟨e, hnt⟩ := hntup _ hg
        rw [e] at hg
        have hrep := ref_rep hR h hg
        refine ⟨mkA_ok ⟨⟨oneCell_cells hrep.oneCell, by simp [eraR]⟩, fun j c' hj => ?_⟩, fun x hx => by simp [rootOf] at hx; subst hx; exact hnt⟩
        obtain ⟨c0, h1, rfl⟩ := eraR_get hj
        cases j with
        | succ j => simp at h1
        | zero =>
          simp at h1
          subst h1
          rw [oneCell_cells hrep.oneCell]
          have hq : q ≠ [] := by rintro rfl; simp [getRow] at hg
          exact hfz hq hrep
      · rename_i cs' k hg
        split at hd
        · rename_i hk
          simp at hd
          obtain ⟨rfl, rfl⟩ := hd
          obtain ⟨e, hnt⟩ := hntup _ hg
          rw [e] at hg
          obtain ⟨h1, h2⟩ := ref_agg hR h hg hk
          refine ⟨mkA_ok ⟨by rw [eraR_map, List.length_map, List.length_take, Nat.min_eq_left hk]; exact h1, fun j c' hj => ?_⟩, fun x hx => by simp [rootOf] at hx; subst hx; exact hnt⟩
          obtain ⟨c0, h3, rfl⟩ := eraR_get hj
          obtain ⟨p, hp, hrep⟩ := h2 j c0 h3
          exact hfz hp hrep
        · cases hd
      · cases hd
    · cases ha
  | addr r q =>
    obtain ⟨cs, rfl⟩ := toArg_addr ha
    simp [sOp.notPtr] at hp
  | _ => simp [toArg] at ha

def ArgsV (Z : Nat → Prop) (w : World) : List Value → List Arg → Prop
  | [], [] => True
  | v :: vs, x :: as => ArgV Z w v x ∧ ArgsV Z w vs as
  | _, _ => False
theorem ArgsV.append {Z : Nat → Prop} {w : World} : ∀ {vs vs' : List Value} {as as' : List Arg}, ArgsV Z w vs as → ArgsV Z w vs' as' → ArgsV Z w (vs ++ vs') (as ++ as')
  | [], _, [], _, _, h => h
  | _ :: _, _, _ :: _, _, h, h' => ⟨h.1, ArgsV.append h.2 h'⟩
  | [], _, _ :: _, _, h, _ => h.elim
  | _ :: _, _, [], _, h, _ => h.elim
theorem ArgsV.rep {Z : Nat → Prop} {w : World} : ∀ {vs : List Value} {as : List Arg}, ArgsV Z w vs as → ArgsRep Z w [] vs as
  | [], [], _ => trivial
  | v :: vs, .v x :: as, h => ⟨h.1, ArgsV.rep h.2⟩
  | v :: vs, .d g cs :: as, h => ⟨h.1, ArgsV.rep h.2⟩
  | v :: vs, .ptr cs :: as, h => h.1.elim
  | [], _ :: _, h => h.elim
  | _ :: _, [], h => h.elim

theorem toArgs_ok {σ : St} {a : Act} {w : World} {L : Lab} (hR : Rel P N N w0 A I σ a w L) {R : List Nat} {rt : Nat → SV} (hrt : ∀ r, rt r = σ r ∨ rt r = .u) : ∀ (l : List Operand) (as : List Arg),
    toArgs rt (l.map (evS σ)) = some as → sOp.noPtr as = true → (∀ r ∈ (l.map (evS σ)).flatMap rootOf, r ∈ R) →
    ArgsV (Reads w0 A L w R) w (l.map a.eval) as ∧ (∀ r ∈ (l.map (evS σ)).flatMap rootOf, isTup (σ r) = false)
  | [], as, h, _, _ => by simp [toArgs] at h; subst h; simp [ArgsV]
  | x :: l, as, h, hp, hr => by
    simp only [List.map_cons, toArgs] at h
    split at h
    · rename_i ar as' ha has
      obtain rfl := Option.some.inj h
      simp [sOp.noPtr] at hp
      have hx : noTup (evS σ x) = true := by cases hx : evS σ x <;> simp_all [noTup, toArg]
      have h1 := toArg_ok (R := R) hR hrt (evS_ok hR 0 x hx) ha hp.1 (fun r hr' => hr r (by simp [hr']))
      have h2 := toArgs_ok hR hrt l as' has (by simp [sOp.noPtr]; exact hp.2) (fun r hr' => hr r (by simp at hr' ⊢; exact .inr hr'))
      refine ⟨⟨h1.1, h2.1⟩, fun r hr' => ?_⟩
      simp only [List.map_cons, List.flatMap_cons, List.mem_append] at hr'
      rcases hr' with h | h
      · exact h1.2 r h
      · exact h2.2 r h
    · cases h

theorem fnOf_ok {σ : St} {a : Act} {w : World} {L : Lab} (hR : Rel P N N w0 A I σ a w L) {R : List Nat} {x : Operand} {f : FuncId} {caps : List Arg} (h : sOp.fnOf (evS σ x) = some (f, caps)) :
    ∃ vs, a.eval x = .func (.func f) #[] vs ∧ ArgsV (Reads w0 A L w R) w vs.toList caps := by
  have hz : ∀ b, Zof w0 A L w b → Reads w0 A L w R b ∧ w.heap[b]? = w.heap[b]? := fun b h => ⟨.inl h, rfl⟩
  unfold sOp.fnOf at h
  split at h
  · rename_i f' fs cs hx
    split at h
    · rename_i hsz
      simp at h
      obtain ⟨rfl, rfl⟩ := h
      refine ⟨#[], ?_, trivial⟩
      rw [evS_p hR hx, Array.eq_empty_of_size_eq_zero hsz.1, Array.eq_empty_of_size_eq_zero hsz.2]
    · cases h
  · rename_i f' caps' hx
    simp at h
    obtain ⟨rfl, rfl⟩ := h
    have hev := evS_ok hR 0 x (by rw [hx]; rfl)
    rw [hx] at hev
    have hf := hev.2 0 _ rfl
    have hc : (a.eval x).cells = #[a.eval x] := hev.1.1
    rw [hc] at hf
    simp at hf
    generalize a.eval x = tv at hf
    cases hf with
    | @fn _ _ vals hn hs hr =>
      refine ⟨vals, rfl, ?_⟩
      have key : ∀ (caps : List (Bool × List C)) (l : List Value), l.length = caps.length → (∀ (i : Nat) (g : Bool) (cs : List C), caps[i]? = some (g, cs) → FrzV (Zof w0 A L w) w g ((l[i]?).getD undef) cs) →
          ArgsV (Reads w0 A L w R) w l (caps.map fun (g, cs) => mkA g cs) := by
        intro caps
        induction caps with
        | nil => intro l hl _; cases l with | nil => trivial | cons _ _ => simp at hl
        | cons y caps ih =>
          intro l hl hh
          cases l with
          | nil => simp at hl
          | cons v l =>
            obtain ⟨g, cs⟩ := y
            refine ⟨mkA_ok (FrzV.mono (by simpa using hh 0 g cs rfl) hz), ih l (by simpa using hl) fun i g cs hi => by simpa using hh (i + 1) g cs (by simpa using hi)⟩
      refine key caps' vals.toList (by simpa using hn) fun i g cs hi => ?_
      have e : (vals.toList[i]?).getD undef = vals.getD i undef := by simp
      rw [e]
      exact ⟨hs i g cs hi, fun j c hj => hr i g cs j c hi hj⟩
  · cases h
end Go.PV
