/-
  Plain definitions of what the functions answer, and plain laws of them.
  Conditions: none.
-/
import Derived.Test.YtlajjggemadajaaPlLift2
set_option linter.all false
namespace Go.PV
/-! ### strict lifts -/
def flatP (xs : List Pt) (n : Nat) : Prop := ∃ i a b, 0 < i ∧ i < n ∧ xs[i - 1]? = some a ∧ xs[i]? = some b ∧ a.2 = b.2
theorem spec_liStrict_eq (xs : List Pt) (hl : xs.length ≤ 4611686018427387904) (h2 : 1 ≤ xs.length) : ∃ c, spec_liStrict xs = some c ∧ (c = true ↔ ¬ flatP xs xs.length) := by
  obtain ⟨y, h3, h4⟩ : ∃ y, loopO (spec_liStrict_b1 xs) 1 = some y ∧ ((y = .inl false ∧ flatP xs xs.length) ∨ (y = .inr () ∧ ¬ flatP xs xs.length)) := by
    refine loop_run (fun x => ∃ i : Nat, x = (i : Int) ∧ 1 ≤ i ∧ i ≤ xs.length ∧ ¬ flatP xs i) (fun x => xs.length - x.toNat) (fun (y : Bool ⊕ Unit) => (y = .inl false ∧ flatP xs xs.length) ∨ (y = .inr () ∧ ¬ flatP xs xs.length)) ?_ 1 ⟨1, rfl, by omega, by omega, fun ⟨i, a, b, h1, h2, _⟩ => by omega⟩
    rintro _ ⟨i, rfl, hi0, hi, hs⟩
    by_cases hlt : i < xs.length
    · obtain ⟨p, hp⟩ : ∃ p, xs[i]? = some p := ⟨xs[i], List.getElem?_eq_getElem hlt⟩
      have hw : w64 ((i : Int) - 1) = ((i - 1 : Nat) : Int) := by rw [w64_id (by omega) (by omega)]; omega
      have hlt2 : i - 1 < xs.length := by omega
      obtain ⟨q, hq⟩ : ∃ q, xs[i - 1]? = some q := ⟨xs[i - 1], List.getElem?_eq_getElem hlt2⟩
      unfold spec_liStrict_b1
      simp only [show ((i : Int) < (xs.length : Int)) from by omega, decide_true, if_true, hw, idxO_nat, hp, hq, Option.bind_some, pair_beq]
      by_cases he : q.2 = p.2
      · exact .inr ⟨.inl false, by simp [he], .inl ⟨rfl, i, q, p, by omega, hlt, hq, hp, he⟩⟩
      · refine .inl ⟨((i + 1 : Nat) : Int), ?_, ⟨i + 1, rfl, by omega, by omega, ?_⟩, by simp; omega⟩
        · have hb : (q.2 == p.2) = false := by simpa using he
          simp only [hb, Bool.false_eq_true, if_false, w64_nat (show i < 9223372036854775807 by omega)]
        · rintro ⟨j, a, b, j1, j2, j3, j4, j5⟩
          by_cases hj : j = i
          · subst hj; rw [hq] at j3; rw [hp] at j4; cases j3; cases j4; exact he j5
          · exact hs ⟨j, a, b, j1, by omega, j3, j4, j5⟩
    · have he : i = xs.length := by omega
      subst he
      exact .inr ⟨.inr (), by simp [spec_liStrict_b1], .inr ⟨rfl, hs⟩⟩
  unfold spec_liStrict
  rw [h3, Option.bind_some]
  rcases h4 with ⟨rfl, h4⟩ | ⟨rfl, h4⟩
  · exact ⟨false, rfl, by simp [h4]⟩
  · exact ⟨true, rfl, by simp [h4]⟩
/-- The plateaus: how many they are matters alone. -/
theorem impl_PlateausOf_len (xs : List Pt) (hl : xs.length ≤ 1048576) (h2 : 1 ≤ xs.length) : ∃ y, loopO (impl_PlateausOf_b1 xs) ([], 1) = some y ∧ (y = [] ↔ ¬ flatP xs xs.length) := by
  refine loop_run (fun x => ∃ i : Nat, x.2 = (i : Int) ∧ 1 ≤ i ∧ i ≤ xs.length ∧ x.1.length ≤ i ∧ (x.1 = [] ↔ ¬ flatP xs i)) (fun x => xs.length - x.2.toNat) (fun y => y = [] ↔ ¬ flatP xs xs.length) ?_ ([], 1) ⟨1, rfl, by omega, by omega, by simp, by simp; rintro ⟨i, a, b, h1, h2, _⟩; omega⟩
  rintro ⟨l, _⟩ ⟨i, rfl, hi0, hi, hlen, hs⟩
  simp only at hlen hs
  by_cases hlt : i < xs.length
  · obtain ⟨p, hp⟩ : ∃ p, xs[i]? = some p := ⟨xs[i], List.getElem?_eq_getElem hlt⟩
    have hw : w64 ((i : Int) - 1) = ((i - 1 : Nat) : Int) := by rw [w64_id (by omega) (by omega)]; omega
    have hlt2 : i - 1 < xs.length := by omega
    obtain ⟨q, hq⟩ : ∃ q, xs[i - 1]? = some q := ⟨xs[i - 1], List.getElem?_eq_getElem hlt2⟩
    unfold impl_PlateausOf_b1
    simp only [show ((i : Int) < (xs.length : Int)) from by omega, decide_true, if_true, hw, idxO_nat, hp, hq, Option.bind_some, pair_beq]
    have hw2 : w64 ((i : Int) + 1) = ((i + 1 : Nat) : Int) := w64_nat (show i < 9223372036854775807 by omega)
    by_cases he : q.2 = p.2
    · have hfl : flatP xs (i + 1) := ⟨i, q, p, by omega, by omega, hq, hp, he⟩
      have hb : (q.2 == p.2) = true := by simpa using he
      simp only [hb, Bool.not_true, Bool.false_eq_true, if_false]
      by_cases h0 : l = []
      · subst h0
        have : w64 (((([] : List Pt).length : Nat) : Int) - 1) = -1 := by rw [w64_id (by simp) (by simp)]; simp
        refine .inl ⟨([(q.1, p.1)], ((i + 1 : Nat) : Int)), ?_, ⟨i + 1, rfl, by omega, by omega, by simp, by simp [hfl]⟩, by simp; omega⟩
        simp only [this]
        rw [guardO_pos (by simp)]
        simp [hw2]
      · have hl0 : 0 < l.length := List.length_pos_iff.2 h0
        have hwl : w64 ((l.length : Int) - 1) = ((l.length - 1 : Nat) : Int) := by rw [w64_id (by omega) (by omega)]; omega
        have hge : ((l.length - 1 : Nat) : Int) ≥ 0 := by omega
        have hll : l.length - 1 < l.length := by omega
        obtain ⟨z, hz⟩ : ∃ z, l[l.length - 1]? = some z := ⟨l[l.length - 1], List.getElem?_eq_getElem hll⟩
        simp only [hwl, hge, decide_true, if_true, idxO_nat, hz, Option.bind_some]
        generalize (z.2 == q.1) = tt
        cases tt
        · refine .inl ⟨(l ++ [(q.1, p.1)], ((i + 1 : Nat) : Int)), ?_, ⟨i + 1, rfl, by omega, by omega, by simp; omega, by simp [hfl]⟩, by simp; omega⟩
          simp only [Bool.false_eq_true, if_false]
          rw [guardO_pos (by simp; omega)]
          simp [hw2]
        · refine .inl ⟨(l.set (l.length - 1) (z.1, p.1), ((i + 1 : Nat) : Int)), ?_, ⟨i + 1, rfl, by omega, by omega, by simp; omega, by simp [hfl, h0]⟩, by simp; omega⟩
          simp [hw2]
    · have hb : (q.2 == p.2) = false := by simpa using he
      have hfl : flatP xs (i + 1) ↔ flatP xs i := by
        constructor
        · rintro ⟨j, a, b, j1, j2, j3, j4, j5⟩
          by_cases hj : j = i
          · subst hj; rw [hq] at j3; rw [hp] at j4; cases j3; cases j4; exact absurd j5 he
          · exact ⟨j, a, b, j1, by omega, j3, j4, j5⟩
        · rintro ⟨j, a, b, j1, j2, j3⟩
          exact ⟨j, a, b, j1, by omega, j3⟩
      refine .inl ⟨(l, ((i + 1 : Nat) : Int)), ?_, ⟨i + 1, rfl, by omega, by omega, by simp; omega, by simp only [hs, hfl]⟩, by simp; omega⟩
      simp [hb, hw2]
  · have he : i = xs.length := by omega
    subst he
    exact .inr ⟨l, by simp [impl_PlateausOf_b1], hs⟩
theorem laws_FnExactIsStrictLift_eq (xs : List Pt) (hl : xs.length ≤ 9223372036854775807) : laws_FnExactIsStrictLift xs = some true := by
  obtain ⟨v, h1, h2⟩ := laws_szLift_eq xs hl
  unfold laws_FnExactIsStrictLift
  rw [h1, Option.bind_some]
  by_cases h : v < 0
  · simp [h]
  · have hm := h2 h
    have key : spec_IsStrictLift xs = impl_IsStrictLift xs ∧ ∃ r, spec_IsStrictLift xs = some r := by
      unfold spec_IsStrictLift impl_IsStrictLift impl_PlateausOf
      simp only [spec_liGood_eq xs (by omega), impl_isLift_eq xs (by omega), Option.bind_some]
      cases hL : isLift xs
      · simp
      · have h1 : 1 ≤ xs.length := by
          simp only [isLift, Bool.and_eq_true] at hL
          have := inB_iff.1 hL.1
          omega
        obtain ⟨c, c1, c2⟩ := spec_liStrict_eq xs (by omega) h1
        obtain ⟨y, y1, y2⟩ := impl_PlateausOf_len xs hm h1
        simp only [Bool.not_true, Bool.false_eq_true, if_false, c1, y1, Option.bind_some, impl_PlateausOf_k1, Bool.true_and]
        have : c = ((y.length : Int) == 0) := by
          cases c
          · have : ¬ y = [] := fun e => by have := c2.2 (y2.1 e); cases this
            have : 0 < y.length := List.length_pos_iff.2 this
            have : ¬ (y.length : Int) = 0 := by omega
            simp [‹¬ y = []›]
          · have : y = [] := y2.2 (c2.1 rfl)
            simp [this]
        rw [this]
        exact ⟨rfl, _, rfl⟩
    obtain ⟨k1, r, k2⟩ := key
    rw [k2] at k1
    simp only [h, decide_false, Bool.false_eq_true, if_false, laws_toLift_eq xs (by omega), k2, ← k1, laws_eqLift_self xs (by omega), Option.bind_some]
    simp
end Go.PV
