/-
  Plain definitions of what the functions answer, and plain laws of them.
  Conditions: none.
-/
import Derived.Test.YtlajjggemadajaaPlLift
set_option linter.all false
namespace Go.PV
theorem less_le {a b : Int × Int} (hl : less a b = true) : less b a = false := by
  simp only [less, decide_eq_true_eq, decide_eq_false_iff_not] at hl ⊢
  omega
/-- What the reference asks of a point. -/
theorem spec_bad_eq {α : Type} (p : Pt) (f : Bool → Option α) : ((spec_imCoord p.1).bind fun v16 =>
    (if (!v16) = true then
        some true
      else
        (spec_raGood p.2).bind fun v17 =>
        if (!v17) = true then
          some true
        else
          if (decide (p.2.2 > 100)) = true then
            some true
          else
            (spec_l1In p.2.1 (w64 ((-5) * p.2.2)) (w64 (5 * p.2.2))).bind fun v18 =>
            some (!v18)).bind f) = f (!goodPt p) := by
  unfold goodPt
  simp only [spec_imCoord_eq, spec_raGood_eq, Option.bind_some]
  cases h1 : coord p.1
  · simp
  · cases h : isRat p.2
    · simp
    · obtain ⟨h2, h3, h4, h5, _⟩ := isRat_iff.1 h
      by_cases h6 : p.2.2 > 100
      · have : ¬ p.2.2 ≤ 100 := by omega
        simp [h6, this]
      · have h7 : p.2.2 ≤ 100 := by omega
        rw [w64_id (by omega) (by omega), w64_id (by omega) (by omega)]
        simp [h6, h7, spec_l1In_eq]
theorem spec_liGood_loop (xs : List Pt) (hl : xs.length ≤ 4611686018427387904) :
    ∃ y, loopO (spec_liGood_b1 xs) 0 = some y ∧ ((y = .inl false ∧ ¬ (xs.all goodPt = true ∧ steps xs xs.length)) ∨ (y = .inr () ∧ xs.all goodPt = true ∧ steps xs xs.length)) := by
  refine loop_run (fun x => ∃ i : Nat, x = (i : Int) ∧ i ≤ xs.length ∧ (∀ j p, j < i → xs[j]? = some p → goodPt p = true) ∧ steps xs i) (fun x => xs.length - x.toNat) (fun (y : Bool ⊕ Unit) => (y = .inl false ∧ ¬ (xs.all goodPt = true ∧ steps xs xs.length)) ∨ (y = .inr () ∧ xs.all goodPt = true ∧ steps xs xs.length)) ?_ 0 ⟨0, rfl, by omega, fun j p h => by omega, fun i a b h1 h2 => by omega⟩
  rintro _ ⟨i, rfl, hi, hg, hs⟩
  by_cases hlt : i < xs.length
  · have hx := idxO_lt hlt
    obtain ⟨p, hp⟩ : ∃ p, xs[i]? = some p := ⟨xs[i], List.getElem?_eq_getElem hlt⟩
    unfold spec_liGood_b1
    simp only [show ((i : Int) < (xs.length : Int)) from by omega, decide_true, if_true, idxO_nat, hp, Option.bind_some]
    rw [spec_bad_eq]
    cases hgp : goodPt p
    · refine .inr ⟨.inl false, by simp, .inl ⟨rfl, fun h => ?_⟩⟩
      have := List.all_eq_true.1 h.1 p (List.mem_of_getElem? hp)
      rw [hgp] at this; cases this
    · simp only [Bool.not_true, Bool.false_eq_true, if_false]
      have hg' : ∀ j q, j < i + 1 → xs[j]? = some q → goodPt q = true := fun j q h1 h2 => by
        by_cases hj : j = i
        · subst hj; rw [hp] at h2; cases h2; exact hgp
        · exact hg j q (by omega) h2
      by_cases hi0 : i = 0
      · subst hi0
        refine .inl ⟨((0 + 1 : Nat) : Int), ?_, ⟨0 + 1, rfl, by omega, hg', fun i a b h1 h2 => by omega⟩, by simp; omega⟩
        simp [w64_nat (show 0 < 9223372036854775807 by omega)]
        rfl
      · have hpos : ((i : Int) > 0) := by omega
        have hw : w64 ((i : Int) - 1) = ((i - 1 : Nat) : Int) := by rw [w64_id (by omega) (by omega)]; omega
        have hlt2 : i - 1 < xs.length := by omega
        obtain ⟨q, hq⟩ : ∃ q, xs[i - 1]? = some q := ⟨xs[i - 1], List.getElem?_eq_getElem hlt2⟩
        have hgq := hg (i - 1) q (by omega) hq
        obtain ⟨p1, p2⟩ := goodPt_tame hgp
        obtain ⟨q1, q2⟩ := goodPt_tame hgq
        simp only [hpos, decide_true, if_true, hw, idxO_nat, hq, Option.bind_some, spec_raCmp_eq q.1 p.1 (tame_of q1) (tame_of p1), spec_raCmp_eq q.2 p.2 (tame_of q2) (tame_of p2), cmp_ge, cmp_gt]
        by_cases hst : stepPt q p = true
        · have h5 : less q.1 p.1 = true ∧ less p.2 q.2 = false := by simpa [stepPt] using hst
          refine .inl ⟨((i + 1 : Nat) : Int), ?_, ⟨i + 1, rfl, by omega, hg', steps_succ hs hq hp hst⟩, by simp; omega⟩
          simp [h5.1, h5.2, w64_nat (show i < 9223372036854775807 by omega)]
        · refine .inr ⟨.inl false, ?_, .inl ⟨rfl, fun h => hst (h.2 i q p (by omega) hlt hq hp)⟩⟩
          cases h6 : less q.1 p.1
          · simp
          · cases h7 : less p.2 q.2
            · simp [stepPt, h6, h7] at hst
            · simp
  · have he : i = xs.length := by omega
    subst he
    refine .inr ⟨.inr (), by simp [spec_liGood_b1], .inr ⟨rfl, ?_, hs⟩⟩
    rw [List.all_eq_true]
    intro p hp
    obtain ⟨j, hj, rfl⟩ := List.mem_iff_getElem.1 hp
    exact hg j _ hj (List.getElem?_eq_getElem hj)
theorem impl_isLift_loop (xs : List Pt) (hl : xs.length ≤ 4611686018427387904) (h2 : 1 ≤ xs.length) (hall : xs.all goodPt = true) :
    ∃ y, loopO (impl_isLift_b1 xs) 1 = some y ∧ ((y = .inl false ∧ ¬ steps xs xs.length) ∨ (y = .inr () ∧ steps xs xs.length)) := by
  refine loop_run (fun x => ∃ i : Nat, x = (i : Int) ∧ 1 ≤ i ∧ i ≤ xs.length ∧ steps xs i) (fun x => xs.length - x.toNat) (fun (y : Bool ⊕ Unit) => (y = .inl false ∧ ¬ steps xs xs.length) ∨ (y = .inr () ∧ steps xs xs.length)) ?_ 1 ⟨1, rfl, by omega, by omega, fun i a b h1 h2 => by omega⟩
  rintro _ ⟨i, rfl, hi0, hi, hs⟩
  by_cases hlt : i < xs.length
  · obtain ⟨p, hp⟩ : ∃ p, xs[i]? = some p := ⟨xs[i], List.getElem?_eq_getElem hlt⟩
    have hgp := List.all_eq_true.1 hall p (List.mem_of_getElem? hp)
    have hw : w64 ((i : Int) - 1) = ((i - 1 : Nat) : Int) := by rw [w64_id (by omega) (by omega)]; omega
    have hlt2 : i - 1 < xs.length := by omega
    obtain ⟨q, hq⟩ : ∃ q, xs[i - 1]? = some q := ⟨xs[i - 1], List.getElem?_eq_getElem hlt2⟩
    have hgq := List.all_eq_true.1 hall q (List.mem_of_getElem? hq)
    obtain ⟨p1, p2⟩ := goodPt_tame hgp
    obtain ⟨q1, q2⟩ := goodPt_tame hgq
    unfold impl_isLift_b1
    simp only [show ((i : Int) < (xs.length : Int)) from by omega, decide_true, if_true, hw, idxO_nat, hp, hq, Option.bind_some, impl_less_eq q.1 p.1 (tame_of q1) (tame_of p1), impl_less_eq p.2 q.2 (tame_of p2) (tame_of q2)]
    by_cases hst : stepPt q p = true
    · have h5 : less q.1 p.1 = true ∧ less p.2 q.2 = false := by simpa [stepPt] using hst
      refine .inl ⟨((i + 1 : Nat) : Int), ?_, ⟨i + 1, rfl, by omega, by omega, steps_succ hs hq hp hst⟩, by simp; omega⟩
      simp [h5.1, h5.2, w64_nat (show i < 9223372036854775807 by omega)]
    · refine .inr ⟨.inl false, ?_, .inl ⟨rfl, fun h => hst (h i q p (by omega) hlt hq hp)⟩⟩
      cases h6 : less q.1 p.1
      · simp
      · cases h7 : less p.2 q.2
        · simp [stepPt, h6, h7] at hst
        · simp
  · have he : i = xs.length := by omega
    subst he
    exact .inr ⟨.inr (), by simp [impl_isLift_b1], .inr ⟨rfl, hs⟩⟩

theorem zero_iff {r : Int × Int} (h : isRat r = true) : (r.1 * 1 == 0 * r.2) = (r == (0, 1)) := by
  obtain ⟨h1, h2, h3, h4, h5⟩ := isRat_iff.1 h
  obtain ⟨n, d⟩ := r
  simp only [Int.mul_one, Int.zero_mul]
  by_cases hn : n = 0
  · subst hn
    have h6 : d.natAbs = 1 := by simpa using h5
    have h7 : d = 1 := by omega
    subst h7; rfl
  · have e1 : (n == 0) = false := by simpa using hn
    have e2 : ((n, d) == ((0, 1) : Int × Int)) = false := by simp [hn]
    rw [e1, e2]
theorem one_iff {r : Int × Int} (h : isRat r = true) : (r.1 * 1 == 1 * r.2) = (r == (1, 1)) := by
  obtain ⟨h1, h2, h3, h4, h5⟩ := isRat_iff.1 h
  obtain ⟨n, d⟩ := r
  simp only [Int.mul_one, Int.one_mul]
  by_cases hn : n = d
  · subst hn
    have h6 : n.natAbs = 1 := by simpa using h5
    have h7 : n = 1 := by omega
    subst h7; rfl
  · by_cases h6 : n = 1
    · subst h6; have : ¬ d = 1 := fun e => hn e.symm
      have e1 : ((1 : Int) == d) = false := by simpa using hn
      have e2 : (((1 : Int), d) == ((1, 1) : Int × Int)) = false := by simp [this]
      rw [e1, e2]
    · have e1 : (n == d) = false := by simpa using hn
      have e2 : ((n, d) == ((1, 1) : Int × Int)) = false := by simp [h6]
      rw [e1, e2]
theorem pair_beq (a b : Int × Int) : ((a.1 == b.1) && (a.2 == b.2)) = (a == b) := by
  obtain ⟨a1, a2⟩ := a; obtain ⟨b1, b2⟩ := b; rfl
theorem ends_aux (xs : List Pt) (hl : 2 ≤ xs.length) (hm : xs.length ≤ 12) (hall : xs.all goodPt = true) : spec_liGood_k1 xs () = some (ends xs) ∧ impl_isLift_k1 xs () = some (ends xs) := by
  have hlt : 0 < xs.length := by omega
  have hlt2 : xs.length - 1 < xs.length := by omega
  obtain ⟨a, ha⟩ : ∃ a, xs[0]? = some a := ⟨xs[0], List.getElem?_eq_getElem hlt⟩
  obtain ⟨b, hb⟩ : ∃ b, xs[xs.length - 1]? = some b := ⟨xs[xs.length - 1], List.getElem?_eq_getElem hlt2⟩
  have hw : w64 ((xs.length : Int) - 1) = ((xs.length - 1 : Nat) : Int) := by rw [w64_id (by omega) (by omega)]; omega
  have hga := goodPt_tame (List.all_eq_true.1 hall a (List.mem_of_getElem? ha))
  have hgb := goodPt_tame (List.all_eq_true.1 hall b (List.mem_of_getElem? hb))
  obtain ⟨h2, h3, h4, h5, _⟩ := isRat_iff.1 hga.2
  have t0 : tame (0, 1) := ⟨by decide, by decide, by decide, by decide⟩
  have t1 : tame (1, 1) := ⟨by decide, by decide, by decide, by decide⟩
  have z0 : idxO xs 0 = some a := by rw [show (0 : Int) = ((0 : Nat) : Int) from rfl, idxO_nat, ha]
  have e1 : w64 (1 * a.2.2) = a.2.2 := by rw [w64_id (by omega) (by omega)]; omega
  have e2 : w64 (a.2.1 + a.2.2) = a.2.1 + a.2.2 := w64_id (by omega) (by omega)
  unfold spec_liGood_k1 impl_isLift_k1 ends
  simp only [z0, hw, idxO_nat, ha, hb, Option.bind_some, spec_raInt, impl_zero, impl_oneRat, spec_liPlus, e1, e2, spec_raCmp_eq a.1 (0, 1) (tame_of hga.1) t0, spec_raCmp_eq b.1 (1, 1) (tame_of hgb.1) t1, cmp_zero, zero_iff hga.1, one_iff hgb.1, pair_beq a.1 (0, 1), pair_beq b.1 (1, 1), pair_beq b.2 (a.2.1 + a.2.2, a.2.2)]
  constructor <;> cases (a.1 == (0, 1)) <;> cases (b.1 == (1, 1)) <;> simp
theorem spec_liGood_eq (xs : List Pt) (hl : xs.length ≤ 4611686018427387904) : spec_liGood xs = some (isLift xs) := by
  unfold spec_liGood isLift
  rw [spec_l1In_eq, Option.bind_some]
  cases h : inB 2 12 xs.length
  · simp
  · obtain ⟨h1, h2⟩ := inB_iff.1 h
    obtain ⟨y, h3, h4⟩ := spec_liGood_loop xs hl
    simp only [Bool.not_true, Bool.false_eq_true, if_false, h3, Option.bind_some, Bool.true_and]
    rcases h4 with ⟨rfl, h4⟩ | ⟨rfl, h4⟩
    · have hd : ∀ {p : Prop} (inst : Decidable p), ¬ p → decide p = false := fun _ h => decide_eq_false h
      rw [hd _ h4]; simp
    · simp only [Sum.elim_inr, (ends_aux xs (by omega) (by omega) h4.1).1, h4, and_self, decide_true, Bool.true_and]
theorem impl_isLift_eq (xs : List Pt) (hl : xs.length ≤ 4611686018427387904) : impl_isLift xs = some (isLift xs) := by
  unfold impl_isLift isLift
  rw [impl_within_eq, Option.bind_some]
  cases h : inB 2 12 xs.length
  · simp
  · obtain ⟨h1, h2⟩ := inB_iff.1 h
    rw [slices_ContainsFunc_Limpl_Point_impl_Point_eq xs (fun x0 => impl_isLift_1 x0) _ impl_isLift_1_eq hl]
    cases hall : xs.all goodPt
    · have : (xs.any fun p => !goodPt p) = true := by rw [List.any_eq_not_all_not]; simp [hall]
      simp [this]
    · have hany : (xs.any fun p => !goodPt p) = false := by rw [List.any_eq_not_all_not]; simp [hall]
      obtain ⟨y, h3, h4⟩ := impl_isLift_loop xs hl (by omega) hall
      simp only [Bool.not_true, Bool.false_eq_true, if_false, hany, h3, Option.bind_some, Bool.true_and]
      rcases h4 with ⟨rfl, h4⟩ | ⟨rfl, h4⟩
      · have hd : ∀ {p : Prop} (inst : Decidable p), ¬ p → decide p = false := fun _ h => decide_eq_false h
        rw [hd _ (fun h => h4 h.2)]; simp
      · simp only [Sum.elim_inr, (ends_aux xs (by omega) (by omega) hall).2, h4, and_self, decide_true, Bool.true_and]
theorem laws_eqLift_self (xs : List Pt) (hl : xs.length ≤ 4611686018427387904) : laws_eqLift xs xs = some true := by
  simp [laws_eqLift, laws_eqPointS_self xs hl]
theorem laws_toLift_eq (xs : List Pt) (hl : xs.length ≤ 1099511627776) : laws_toLift xs = some xs := by simp [laws_toLift, laws_toPointS_eq xs hl]
theorem laws_szLift_eq (xs : List Pt) (hl : xs.length ≤ 9223372036854775807) : ∃ v, laws_szLift xs 1048576 = some v ∧ (¬ v < 0 → xs.length ≤ 1048576) := by
  unfold laws_szLift
  rw [show (1048576 : Int) = ((1048576 : Nat) : Int) from rfl, laws_szPointS_eq xs 1048576 (by omega) hl, Option.bind_some]
  by_cases h : 1048576 < xs.length
  · exact ⟨-1, by simp [h], by omega⟩
  · refine ⟨((1048576 : Nat) : Int) - xs.length, ?_, by omega⟩
    have : ¬ ((1048576 : Nat) : Int) - xs.length < 0 := by omega
    simp only [h, if_false]
    simp only [this, decide_false, Bool.false_eq_true, if_false]
theorem laws_FnExactIsLift_eq (xs : List Pt) (hl : xs.length ≤ 9223372036854775807) : laws_FnExactIsLift xs = some true := by
  obtain ⟨v, h1, h2⟩ := laws_szLift_eq xs hl
  unfold laws_FnExactIsLift
  rw [h1, Option.bind_some]
  by_cases h : v < 0
  · simp [h]
  · have hm := h2 h
    simp only [h, decide_false, Bool.false_eq_true, if_false, laws_toLift_eq xs (by omega), spec_IsLift, impl_IsLift, spec_liGood_eq xs (by omega), impl_isLift_eq xs (by omega), laws_eqLift_self xs (by omega), Option.bind_some]
    simp
end Go.PV
