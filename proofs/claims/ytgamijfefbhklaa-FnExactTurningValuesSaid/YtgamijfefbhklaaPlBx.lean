/-
  Plain laws of what the functions answer.
  Conditions: none.
-/
import Derived.Test.YtgamijfefbhklaaPlAx
/-
  Plain laws: values of the turning point.
  Conditions: none.
-/
set_option linter.all false
namespace Go.PV
/-! ### values stay in the unit interval -/
section
variable {n : Nat} {p : Nat → Pt}
theorem coord_unit {r : Rt} (h : coord r = true) : (0 : Rat) ≤ val r ∧ val r ≤ 1 := by
  have hr := coord_rat h
  have c := coord_bd h
  refine (unit_val hr).1 ?_
  simp only [isUnit, Bool.and_eq_true, inB_iff]
  exact ⟨hr, c.1, c.2.1⟩
theorem atQ_unit (h : Curve n p) (hy : ∀ i, i < n → coord (p i).2 = true) {x y : Rt} (hx : isUnit x = true) (ha : atQ n p x = some y) : isUnit y = true := by
  have hr : isRat x = true := by simp only [isUnit, Bool.and_eq_true] at hx; exact hx.1
  have hyr := atQ_rat ha
  obtain ⟨j, hj⟩ := findJ h hx
  rw [atQ_eq hj] at ha
  have hlt := hj.lt
  have hn := h.lo
  have hj1 : j - 1 + 1 < n := by omega
  obtain ⟨u, v, hs⟩ := h.piece hj1
  unfold onQ at ha
  obtain ⟨far, e1, ha⟩ := Option.bind_eq_some_iff.1 ha
  obtain ⟨up, e2, ha⟩ := Option.bind_eq_some_iff.1 ha
  have rx0 := coord_rat (h.x (j - 1) (by omega))
  have rx1 := coord_rat (h.x (j - 1 + 1) hj1)
  have ry0 := (h.y (j - 1) (by omega)).1
  have ry1 := (h.y (j - 1 + 1) hj1).1
  have d2 : ∀ {z : Rt}, isRat z = true → 0 < z.2 := fun hz => by have := (isRat_iff.1 hz).1; omega
  have q1 := subQ_val hr rx0 e1
  have q2 := mulQ_val hs.rs (subQ_rat e1) e2
  have q3 := addQ_val ry0 (mulQ_rat e2) ha
  have q4 := subQ_val ry1 ry0 hs.up
  have q5 := subQ_val rx1 rx0 hs.far
  have q6 := divQ_val hs.ru hs.rv hs.vp hs.div
  have b0 := coord_unit (hy (j - 1) (by omega))
  have b1 := coord_unit (hy (j - 1 + 1) hj1)
  have hup := (less_val (d2 rx0) (d2 rx1)).1 (by have := h.up (j - 1 + 1) (by omega) hj1; simpa using this)
  have hux := (unit_val hr).1 hx
  have hlo : val (p (j - 1)).1 ≤ val x := by
    by_cases h0 : j = 0
    · subst h0
      rw [show 0 - 1 = 0 from rfl, h.fst]
      have : val (0, 1) = 0 := by have := val_mul (r := ((0 : Int), (1 : Int))) (by decide); simpa using this
      rw [this]; exact hux.1
    · have := (less_val (d2 rx0) (d2 hr)).1 (hj.bef (j - 1) (by omega))
      exact Rat.le_of_lt this
  have hhi : val x ≤ val (p (j - 1 + 1)).1 := by
    by_cases h0 : j = 0
    · subst h0
      have := (less_val_no (d2 rx0) (d2 hr)).1 hj.at'
      rw [show 0 - 1 = 0 from rfl] at hup
      grind
    · rw [show j - 1 + 1 = j by omega] at rx1 ⊢
      exact (less_val_no (d2 rx1) (d2 hr)).1 hj.at'
  refine (unit_val hyr).2 ?_
  rw [q4, q5] at q6
  rw [q3, q2, q1]
  generalize val (slopeQ (p (j - 1)) (p (j - 1 + 1))) = s at *
  generalize val (p (j - 1)).1 = x0 at *
  generalize val (p (j - 1 + 1)).1 = x1 at *
  generalize val (p (j - 1)).2 = y0 at *
  generalize val (p (j - 1 + 1)).2 = y1 at *
  generalize val x = z at *
  rcases Rat.le_total (a := 0) (b := s) with h1 | h1
  · have m1 := Rat.mul_le_mul_of_nonneg_left (show z - x0 ≤ x1 - x0 by grind) h1
    have m2 := Rat.mul_nonneg h1 (show 0 ≤ z - x0 by grind)
    grind
  · have m1 := Rat.mul_le_mul_of_nonneg_left (show z - x0 ≤ x1 - x0 by grind) (show 0 ≤ -s by grind)
    have m2 := Rat.mul_nonneg (show 0 ≤ -s by grind) (show 0 ≤ z - x0 by grind)
    grind
/-! ### the values of a point -/
noncomputable def vQ (n : Nat) (p : Nat → Pt) (c : Rt) : Nat → Option Rt
  | 0 => some c
  | k + 1 => (vQ n p c k).bind (atQ n p)
noncomputable def vv (n : Nat) (p : Nat → Pt) (c : Rt) (k : Nat) : Rt := (vQ n p c k).getD (0, 0)
variable {c : Rt}
theorem vQ_none {k m : Nat} (h : vQ n p c k = none) (hm : k ≤ m) : vQ n p c m = none := by
  induction m with
  | zero => have : k = 0 := by omega
            subst this; exact h
  | succ m ih =>
    by_cases hk : k = m + 1
    · subst hk; exact h
    · simp [vQ, ih (by omega)]
theorem vQ_unit (h : Curve n p) (hy : ∀ i, i < n → coord (p i).2 = true) (hc : isUnit c = true) : ∀ {k : Nat} {y : Rt}, vQ n p c k = some y → isUnit y = true
  | 0, y, e => by obtain rfl := Option.some.inj e; exact hc
  | k + 1, y, e => by
    obtain ⟨z, e1, e2⟩ := Option.bind_eq_some_iff.1 e
    exact atQ_unit h hy (vQ_unit h hy hc e1) e2
/-- So far the values go. -/
structure Stop (n : Nat) (p : Nat → Pt) (c : Rt) (m L : Nat) : Prop where
  le : L ≤ m
  some : vQ n p c L = some (vv n p c L)
  stop : L = m ∨ vQ n p c (L + 1) = none
theorem Stop.uniq {m L L' : Nat} (h : Stop n p c m L) (h' : Stop n p c m L') : L = L' := by
  rcases Nat.lt_trichotomy L L' with h1 | h1 | h1
  · rcases h.stop with h2 | h2
    · have := h'.le; omega
    · have := vQ_none h2 (show L + 1 ≤ L' by omega)
      rw [h'.some] at this; cases this
  · exact h1
  · rcases h'.stop with h2 | h2
    · have := h.le; omega
    · have := vQ_none h2 (show L' + 1 ≤ L by omega)
      rw [h.some] at this; cases this
theorem spec_orRun_eq (h : Curve n p) (hy : ∀ i, i < n → coord (p i).2 = true) (hc : isUnit c = true) (m : Nat) (hm : m ≤ 1048576) : ∃ L, Stop n p c m L ∧ spec_orRun (tab n p) c (m : Int) = some (tab (L + 1) (vv n p c)) := by
  obtain ⟨y, h3, h4⟩ := loop_run (body := spec_orRun_b1 (tab n p) (m : Int)) (fun l => ∃ i : Nat, i ≤ m ∧ l = tab (i + 1) (vv n p c) ∧ vQ n p c i = some (vv n p c i)) (fun l => m + 1 - l.length)
    (fun y => ∃ L, Stop n p c m L ∧ (y = .inl (tab (L + 1) (vv n p c)) ∨ y = .inr (tab (L + 1) (vv n p c)))) (fun l ⟨i, hi, e, hq⟩ => by
      subst e
      by_cases hlt : i < m
      · have e1 : w64 (((i + 1 : Nat) : Int) - 1) = ((i : Nat) : Int) := by rw [w64_pred (by omega) (by omega)]; rfl
        simp only [spec_orRun_b1, tab_len, show (((i + 1 : Nat) : Int) ≤ (m : Int)) from by omega, decide_true, if_true, e1, idxO_tab (show i < i + 1 by omega), Option.bind_some, spec_at h (vQ_unit h hy hc hq)]
        have e2 : vQ n p c (i + 1) = atQ n p (vv n p c i) := by simp [vQ, hq]
        cases ha : atQ n p (vv n p c i) with
        | none => right; exact ⟨_, rfl, i, ⟨hi, hq, .inr (by rw [e2, ha])⟩, .inl rfl⟩
        | some z =>
          have e3 : vv n p c (i + 1) = z := by unfold vv; rw [e2, ha]; rfl
          left
          refine ⟨tab (i + 1) (vv n p c) ++ [z], ?_, ⟨i + 1, hlt, by rw [← e3, tab_succ], by rw [e2, ha, e3]⟩, by simp [tab_len]; omega⟩
          simp only [unO, Bool.not_true, Bool.false_eq_true, if_false]
          rw [guardO_bind_pos (by simp; omega)]
      · have : i = m := by omega
        subst this
        right
        exact ⟨.inr (tab (i + 1) (vv n p c)), by simp only [spec_orRun_b1, tab_len, show ¬ (((i + 1 : Nat) : Int) ≤ (i : Int)) from by omega, decide_false, Bool.false_eq_true, if_false], i, ⟨hi, hq, .inl rfl⟩, .inr rfl⟩) [c] ⟨0, by omega, rfl, rfl⟩
  obtain ⟨L, h5, h6⟩ := h4
  refine ⟨L, h5, ?_⟩
  unfold spec_orRun
  rw [h3]
  rcases h6 with rfl | rfl <;> rfl
theorem impl_orbit_eq (h : Curve n p) (hy : ∀ i, i < n → coord (p i).2 = true) (hc : isUnit c = true) (m : Nat) (hm : m ≤ 1048576) : ∃ L, Stop n p c m L ∧ impl_orbit (tab n p) c (m : Int) = some (tab (L + 1) (vv n p c)) := by
  obtain ⟨y, h3, h4⟩ := loop_run (body := impl_orbit_b1 (tab n p) (m : Int)) (fun s => ∃ i : Nat, i ≤ m ∧ s = ((vv n p c i).1, (vv n p c i).2, tab (i + 1) (vv n p c), false, (i : Int)) ∧ vQ n p c i = some (vv n p c i)) (fun s => m - s.2.2.2.2.toNat)
    (fun y => ∃ L, Stop n p c m L ∧ y = tab (L + 1) (vv n p c)) (fun s ⟨i, hi, e, hq⟩ => by
      subst e
      by_cases hlt : i < m
      · obtain ⟨v, e4, e5, e6⟩ := impl_at h (vQ_unit h hy hc hq) false
        simp only [impl_orbit_b1, show ((i : Int) < (m : Int)) from by omega, decide_true, if_true]
        rw [show ((vv n p c i).1, (vv n p c i).2) = vv n p c i from rfl, e4]
        simp only [Option.bind_some]
        have e2 : vQ n p c (i + 1) = atQ n p (vv n p c i) := by simp [vQ, hq]
        cases ha : atQ n p (vv n p c i) with
        | none => rw [ha] at e6; simp only at e6; right; exact ⟨_, by rw [e6]; rfl, i, ⟨hi, hq, .inr (by rw [e2, ha])⟩, rfl⟩
        | some z =>
          rw [ha] at e6
          simp only at e6
          subst e6
          have e3 : vv n p c (i + 1) = z := by unfold vv; rw [e2, ha]; rfl
          left
          refine ⟨_, by
            simp only [Bool.false_eq_true, if_false]
            rw [guardO_bind_pos (by simp [tab_len]; omega)], ⟨i + 1, hlt, by rw [e3, ← tab_succ (i + 1), e3, w64_nat (show i < 9223372036854775807 by omega)], by rw [e2, ha, e3]⟩, by simp only [w64_nat (show i < 9223372036854775807 by omega), Int.toNat_natCast]; omega⟩
      · have : i = m := by omega
        subst this
        right
        exact ⟨tab (i + 1) (vv n p c), by simp [impl_orbit_b1], i, ⟨hi, hq, .inl rfl⟩, rfl⟩) (c.1, c.2, [c], false, 0) ⟨0, by omega, rfl, rfl⟩
  obtain ⟨L, h5, rfl⟩ := h4
  refine ⟨L, h5, ?_⟩
  unfold impl_orbit
  rw [h3]
  rfl
end
/-! ### maps with one turn -/
theorem both_kn (f : List Pt) (hl : f.length ≤ 4611686018427387904) : ∃ b, spec_knLaps f = some b ∧ impl_isUnimodal f = some b ∧
    (b = true → ∃ n p t0 t1, f = tab n p ∧ 2 ≤ n ∧ n ≤ 12 ∧ isMapT n p ∧ lapsT n p = [t0, t1]) := by
  obtain ⟨c, b, h1, h2, h3, h4⟩ := both_strict f hl
  unfold spec_knLaps impl_isUnimodal
  rw [h1, h3]
  cases c
  · exact ⟨false, rfl, rfl, fun h => by cases h⟩
  · obtain ⟨e1, n, p, rfl, h5, h6, hm, rfl⟩ := h4 rfl
    simp only [Option.bind_some, Bool.not_true, Bool.false_eq_true, if_false, e1, Bool.true_and] at h3 ⊢
    cases hb : strictB n p
    · exact ⟨false, rfl, rfl, fun h => by cases h⟩
    · rw [hb] at h3
      simp only [Bool.not_true, Bool.false_eq_true, if_false, spec_imLaps_tab hm h5 h6, Option.bind_some, impl_laps_tab hm h5 h6]
      by_cases hlen : ((((lapsT n p).map encT).length : Int) == 2) = true
      · have h7 : (lapsT n p).length = 2 := by rw [List.length_map] at hlen; simp only [beq_iff_eq] at hlen; omega
        obtain ⟨t0, t1, ht⟩ : ∃ t0 t1, lapsT n p = [t0, t1] := by
          generalize lapsT n p = l at h7
          match l, h7 with
          | [a, b], _ => exact ⟨a, b, rfl⟩
        rw [ht]
        refine ⟨t0.2.2 == 1, rfl, rfl, fun _ => ⟨n, p, t0, t1, rfl, h5, h6, hm, ht⟩⟩
      · have hlen' : ((((lapsT n p).map encT).length : Int) == 2) = false := by simpa using hlen
        rw [hlen']
        exact ⟨false, rfl, rfl, fun h => by cases h⟩
section
variable {n : Nat} {p : Nat → Pt} {t0 t1 : Trip}
theorem turn_lt (h2 : 2 ≤ n) (ht : lapsT n p = [t0, t1]) : t1.1 < n := by
  have := (lap_inv (wayOf p) (n - 1)).bd t1 (by show t1 ∈ lapsT n p; rw [ht]; simp)
  omega
theorem impl_turns_eq (h2 : 2 ≤ n) (hn : n ≤ 12) (hm : isMapT n p) (ht : lapsT n p = [t0, t1]) : impl_turns (tab n p) = some [(p t1.1).1] := by
  have hlt := turn_lt h2 ht
  unfold impl_turns
  rw [impl_laps_tab hm h2 hn, ht]
  have e : idxO ([encT t1] : List (List Int)) 0 = some (encT t1) := rfl
  have e2 : idxO (encT t1) 0 = some (t1.1 : Int) := rfl
  have hx := loop_idx (body := impl_turns_b1 (tab n p) [encT t0, encT t1]) 1 (fun i => (if i = 0 then [] else [(p t1.1).1], (i : Int))) [(p t1.1).1] (fun i hi => by
    have : i = 0 := by omega
    subst this
    simp only [impl_turns_b1]
    show (if decide ((0 : Int) < (1 : Int)) = true then (idxO [encT t1] 0).bind _ else _) = _
    simp only [show (0 : Int) < 1 from by decide, decide_true, if_true, e, Option.bind_some, e2, idxO_tab hlt]
    rfl) rfl
  have hx' : loopO (impl_turns_b1 (tab n p) [encT t0, encT t1]) ([], 0) = some [(p t1.1).1] := hx
  show ((guardO (0 ≤ 1 ∧ (1 : Int) ≤ 2)).bind fun u3 => (loopO (impl_turns_b1 (tab n p) [encT t0, encT t1]) ([], 0)).bind fun y5 => impl_turns_k1 y5) = _
  rw [hx']
  rfl
theorem spec_centre_eq (h2 : 2 ≤ n) (hn : n ≤ 12) (hm : isMapT n p) (ht : lapsT n p = [t0, t1]) : spec_knCentre (tab n p) = some (p t1.1).1 := by
  have hlt := turn_lt h2 ht
  unfold spec_knCentre spec_lpTurns
  rw [spec_imLaps_tab hm h2 hn, ht]
  have e : idxO ([encT t1] : List (List Int)) 0 = some (encT t1) := rfl
  have e2 : idxO (encT t1) 0 = some (t1.1 : Int) := rfl
  have hx := loop_idx (body := spec_lpTurns_b1 (tab n p) [encT t0, encT t1]) 1 (fun i => (if i = 0 then [] else [(p t1.1).1], (i : Int))) [(p t1.1).1] (fun i hi => by
    have : i = 0 := by omega
    subst this
    simp only [spec_lpTurns_b1]
    show (if decide ((0 : Int) < (1 : Int)) = true then (idxO [encT t1] 0).bind _ else _) = _
    simp only [show (0 : Int) < 1 from by decide, decide_true, if_true, e, Option.bind_some, e2, idxO_tab hlt]
    rfl) rfl
  have hx' : loopO (spec_lpTurns_b1 (tab n p) [encT t0, encT t1]) ([], 0) = some [(p t1.1).1] := hx
  show (((guardO (0 ≤ 1 ∧ (1 : Int) ≤ 2)).bind fun u3 => (loopO (spec_lpTurns_b1 (tab n p) [encT t0, encT t1]) ([], 0)).bind fun y5 => spec_lpTurns_k1 y5)).bind _ = _
  rw [hx']
  rfl
end
theorem both_TurningValues (f : List Pt) (m : Int) (hl : f.length ≤ 4611686018427387904) : ∃ r ok, r.length ≤ 1048576 ∧ spec_TurningValues f m = some (r, ok) ∧ impl_TurningValues f m = some (r, ok) := by
  obtain ⟨b, h1, h2, h3⟩ := both_kn f hl
  have clone : ∀ l : List Rt, l.length ≤ 1048576 → slices_Clone_Limpl_Rat_impl_Rat l = some l := fun l h => by
    unfold slices_Clone_Limpl_Rat_impl_Rat
    rw [guardO_bind_pos (by omega)]
  unfold spec_TurningValues impl_TurningValues impl_kneading
  rw [h1, h2]
  cases b
  · exact ⟨[], false, by simp, rfl, by simp [clone]⟩
  · simp only [Option.bind_some, Bool.not_true, Bool.false_eq_true, if_false, spec_knLength, spec_l1In_eq, impl_within_eq]
    cases hm : inB 1 30 m
    · exact ⟨[], false, by simp, rfl, by simp [clone]⟩
    · obtain ⟨n, p, t0, t1, rfl, h5, h6, hT, ht⟩ := h3 rfl
      obtain ⟨m1, m2⟩ := inB_iff.1 hm
      obtain ⟨k, rfl⟩ := Int.eq_ofNat_of_zero_le (show 0 ≤ m by omega)
      have hC := Curve.of_map hT h5 h6
      have hy : ∀ i, i < n → coord (p i).2 = true := fun i hi => (hT.1 i hi).2
      have hlt := turn_lt h5 ht
      have hc : isUnit (p t1.1).1 = true := (unit_val (coord_rat (hC.x _ hlt))).2 (coord_unit (hC.x _ hlt))
      obtain ⟨L, s1, e1⟩ := spec_orRun_eq hC hy hc k (by omega)
      obtain ⟨L', s2, e2⟩ := impl_orbit_eq hC hy hc k (by omega)
      obtain rfl := s1.uniq s2
      have e3 : idxO [(p t1.1).1] 0 = some (p t1.1).1 := rfl
      have hle := s1.le
      simp only [Option.bind_some, Bool.not_true, Bool.false_eq_true, if_false, spec_knValues, spec_centre_eq h5 h6 hT ht, impl_turns_eq h5 h6 hT ht, e1, e2, e3, tab_len]
      by_cases hk : (((L + 1 : Nat) : Int) ≤ (k : Int))
      · refine ⟨[], false, by simp, by simp only [hk, decide_true, if_true, Option.bind_some], ?_⟩
        simp only [hk, decide_true, if_true, Option.bind_some]
        rw [clone [] (by simp)]
        rfl
      · have hd : ((tab (L + 1) (vv n p (p t1.1).1)).drop (Int.toNat 1)).length ≤ 1048576 := by rw [List.length_drop, tab_len]; omega
        refine ⟨(tab (L + 1) (vv n p (p t1.1).1)).drop (Int.toNat 1), true, hd, ?_, ?_⟩
        · simp only [hk, decide_false, Bool.false_eq_true, if_false]
          rw [guardO_bind_pos ⟨by omega, by omega⟩]
          rfl
        · simp only [hk, decide_false, Bool.false_eq_true, if_false]
          rw [guardO_bind_pos ⟨by omega, by omega⟩, Option.bind_some, clone _ hd]
          rfl
theorem laws_eqRatS_self (xs : List Rt) (hl : xs.length ≤ 4611686018427387904) : laws_eqRatS xs xs = some true := by
  have h := loop_idx (body := laws_eqRatS_b1 xs xs) xs.length (fun i => (i : Int)) (.inr ()) (fun i hi => by
    simp only [laws_eqRatS_b1, idxO_lt hi, laws_eqRat_self, Option.bind_some, w64_nat (show i < 9223372036854775807 by omega), show ((i : Int) < (xs.length : Int)) from by omega, decide_true, if_true]
    simp) (by simp [laws_eqRatS_b1])
  unfold laws_eqRatS
  rw [show (0 : Int) = ((0 : Nat) : Int) from rfl, h]
  simp [laws_eqRatS_k1]
theorem laws_markPointS_eq (xs : List Pt) (k : Int) (hk : 0 ≤ k) (hk2 : k + 4 * xs.length ≤ 4611686018427387904) : laws_markPointS xs k = some (k + 4 * xs.length, marks 4 (fun c => ((c, c + 1), (c + 1 + 1, c + 1 + 1 + 1))) xs.length k) := by
  unfold laws_markPointS
  rw [mark_loop 4 (fun c => ((c, c + 1), (c + 1 + 1, c + 1 + 1 + 1))) xs k hk (by omega) (fun l i c h1 h3 h4 h5 => by
    have h6 : ∀ x, i < (l.set i x).length := fun x => by simpa using h1
    simp only [laws_markPointS_b1, idxO_lt h1, idxO_set h1, List.set_set, Option.bind_some, show ((i : Int) < (l.length : Int)) from by omega, decide_true, if_true, Int.toNat_natCast, w64_nat (show i < 9223372036854775807 by omega), w64_id (n := c + 1) (by omega) (by omega), w64_id (n := c + 1 + 1) (by omega) (by omega), w64_id (n := c + 1 + 1 + 1) (by omega) (by omega), w64_id (n := c + 1 + 1 + 1 + 1) (by omega) (by omega)]
    congr 3
    simp; omega) (by omega) (fun l c => by simp [laws_markPointS_b1])]
  simp [laws_markPointS_k1]
theorem laws_FnExactTurningValues_eq (f : List Pt) (m : Int) (hl : f.length ≤ 9223372036854775807) : laws_FnExactTurningValues f m = some true := by
  obtain ⟨v, h1, h2⟩ := sz_points f hl
  unfold laws_FnExactTurningValues
  rw [h1, Option.bind_some]
  by_cases h : v < 0
  · simp [h]
  · have hm := h2 h
    obtain ⟨r, ok, e0, e1, e2⟩ := both_TurningValues f m (by omega)
    have e7 : ¬ ((1 : Int) + 4 * (f.length : Int) < 0) := by omega
    have e8 : ¬ ((1 : Int) + 2 * (r.length : Int) < 0) := by omega
    simp only [h, decide_false, Bool.false_eq_true, if_false, laws_toPointS_eq f (by omega), e1, e2, laws_eqRatS_self r (by omega), laws_eqPointS_self f (by omega), Option.bind_some, laws_markPointS_eq f 1 (by omega) (by omega), e7,
      laws_markRatS_eq r 1 (by omega) (by omega), laws_heldRatS_eq r.length 1 (by omega) (by omega), beq_self_eq_true, Bool.not_true, Bool.or_self, bne_self_eq_false, e8]
end Go.PV
