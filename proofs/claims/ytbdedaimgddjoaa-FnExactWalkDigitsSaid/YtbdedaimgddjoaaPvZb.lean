/-
  A walk over pure values: regions where the order is open, whole.
  Conditions: none.
-/
import Derived.Test.YtbdedaimgddjoaaPvZa
set_option linter.all false
namespace Go.PV
variable {P : Program} {N : Nat} {w0 : World} {A : Nat → Prop} {I : List Nat} {ops : Array Oper} {n : Nat} {Q : Exit → Act → World → Prop} {K : St → Prop}

theorem apart_spec {x y : Oper} (h : x.apart ops y = true) : (∀ d, x.dst = some d → d ∉ y.looksAt ops ∧ y.dst ≠ some d) ∧ ∀ d, y.dst = some d → d ∉ x.looksAt ops := by
  unfold Oper.apart at h
  simp only [Bool.and_eq_true] at h
  refine ⟨fun d hd => ?_, fun d hd => ?_⟩
  · have := h.1
    rw [hd] at this
    simpa using this
  · have := h.2
    rw [hd] at this
    simpa using this

theorem head_sound (hB : drawB ops n = true) (hO : opsB N ops.toList = true) (hK : ∀ a w σ L, K σ → Rel P N N w0 A I σ a w L → Q .normal a w) {σ0 : St} {ps : List (Nat × SV)} (hps : ps.length = n)
    (hstep : ∀ j o y, ops[j]? = some o → ps[j]? = some y → stepD P ops (rtOf σ0) o (appS (fun i => decide (i < j)) ps 0 σ0) y.1 y.2) (hfin : pvL P ops (ops.toList.drop n) (appS (fun _ => true) ps 0 σ0) K) :
    ∀ (fuel : Nat) (listed : Array Bool) (a : Act) (w : World) (L : Lab), cntS (fun j => listed.getD j false) n + (ops.size - n) ≤ fuel → listed.size = ops.size →
    (∀ j k oj, listed.getD j false = true → ops[j]? = some oj → waitsOn oj k = true → listed.getD k false = true) → (∀ j, listed.getD j false = true → j < n) →
    Rel P N N w0 A I (appS (fun j => listed.getD j false) ps 0 σ0) a w L → wpAny P .any ops Q fuel listed a w := by
  have hnle : n ≤ ops.size := by
    have := (Bool.and_eq_true_iff.1 hB).1
    simpa using this
  have hroot : ∀ (j : Nat) (z : Nat × SV), ps[j]? = some z → isRoot (σ0 z.1) = false := by
    intro j
    induction j using Nat.strongRecOn with
    | ind j ih =>
      intro z hz
      have hj : j < ps.length := (List.getElem?_eq_some_iff.1 hz).1
      have hjo : j < ops.size := by omega
      have h1 := (hstep j ops[j] z (by simp [hjo]) hz).2.1
      by_cases hx : ∃ (j' : Nat) (z' : Nat × SV), j' < j ∧ ps[j']? = some z' ∧ z'.1 = z.1
      · obtain ⟨j', z', h2, h3, h4⟩ := hx
        rw [← h4]
        exact ih j' h2 z' h3
      · rw [appS_none ps 0 σ0 fun j' z' h2 h3 => by
          have : ¬ j' < j := fun h4 => hx ⟨j', z', h4, h2, h3⟩
          simpa using this] at h1
        exact h1
  intro fuel
  induction fuel with
  | zero =>
    intro listed a w L hf hs hcl hln hR
    have hall : ∀ j, j < n → listed.getD j false = true := fun j hj => by
      cases hc : listed.getD j false with
      | true => rfl
      | false =>
        have := cntS_set (S := fun j => listed.getD j false) (S' := fun k => if k = j then true else listed.getD k false) n hj hc (by simp) fun k hk => by simp [hk]
        omega
    rw [show appS (fun j => listed.getD j false) ps 0 σ0 = appS (fun _ => true) ps 0 σ0 from funext fun e => appS_congr ps 0 σ0 σ0 rfl fun j y hj _ => by
      have : j < ps.length := (List.getElem?_eq_some_iff.1 hj).1
      have := hall j (by omega)
      simpa using this] at hR
    refine tail_sound hB hO hK 0 n listed a w _ L (Nat.le_refl _) (by omega) hnle hs (fun j hj => ?_) hR hfin
    by_cases hjn : j < n
    · rw [hall j hjn]; simp [hjn]
    · cases hc : listed.getD j false with
      | true => exact absurd (hln j hc) hjn
      | false => simp [hjn]
  | succ fuel ih =>
    intro listed a w L hf hs hcl hln hR
    by_cases hall : ∀ j, j < n → listed.getD j false = true
    · rw [show appS (fun j => listed.getD j false) ps 0 σ0 = appS (fun _ => true) ps 0 σ0 from funext fun e => appS_congr ps 0 σ0 σ0 rfl fun j y hj _ => by
        have : j < ps.length := (List.getElem?_eq_some_iff.1 hj).1
        have := hall j (by omega)
        simpa using this] at hR
      refine tail_sound hB hO hK (fuel + 1) n listed a w _ L (Nat.le_refl _) (by omega) hnle hs (fun j hj => ?_) hR hfin
      by_cases hjn : j < n
      · rw [hall j hjn]; simp [hjn]
      · cases hc : listed.getD j false with
        | true => exact absurd (hln j hc) hjn
        | false => simp [hjn]
    · have hex : ∃ j, j < n ∧ listed.getD j false = false := by
        refine Classical.byContradiction fun hno => hall fun j hj => ?_
        cases hc : listed.getD j false with
        | true => rfl
        | false => exact absurd ⟨j, hj, hc⟩ hno
      obtain ⟨j0, hj0, hc0⟩ := hex
      refine ⟨fun hr => ?_, fun i hi => ?_⟩
      · obtain ⟨j, h1, h2, h3⟩ := least (p := fun j => !listed.getD j false) n ⟨j0, hj0, by simp only [hc0]; rfl⟩
        have := ready_least hB (j := j) (listed := listed) (by omega) (by rw [not_listed hs (by omega)]; simpa using h2) fun k hk => by simpa using h3 k hk
        rw [hr] at this
        simp at this
      · obtain ⟨h1, o, ho, _⟩ := mem_ready.1 hi
        have hlt : i < ops.size := (Array.getElem?_eq_some_iff.1 ho).1
        rw [not_listed hs hlt] at h1
        have hin : i < n := by
          rcases Nat.lt_or_ge i n with h2 | h2
          · exact h2
          · rcases (drawB_spec hB ho).2 j0 ops[j0] (by omega) (by simp [show j0 < ops.size by omega]) with h3 | h3
            · have := ready_WT hcl hi h3
              rw [hc0] at this
              cases this
            · omega
        obtain ⟨y, hy⟩ : ∃ y, ps[i]? = some y := ⟨ps[i], by simp [hps, hin]⟩
        have hst := hstep i o y ho hy
        have hdst : ∀ (j : Nat) (z : Nat × SV), ps[j]? = some z → ∃ oj, ops[j]? = some oj ∧ oj.dst = some z.1 := fun j z hz => by
          have hj : j < ps.length := (List.getElem?_eq_some_iff.1 hz).1
          have hjo : j < ops.size := by omega
          exact ⟨ops[j], by simp [hjo], (hstep j ops[j] z (by simp [hjo]) hz).1⟩
        have hbefore : ∀ (j : Nat) (z : Nat × SV), j < i → ps[j]? = some z → (z.1 ∈ o.looksAt ops ∨ z.1 = y.1) → listed.getD j false = true := fun j z hj hz hzt => by
          obtain ⟨oj, h2, h3⟩ := hdst j z hz
          rcases (drawB_spec hB ho).2 j oj hj h2 with h4 | h4
          · exact ready_WT hcl hi h4
          · have := (apart_spec h4.2).1 z.1 h3
            rcases hzt with h5 | h5
            · exact absurd h5 this.1
            · exact absurd (h5 ▸ hst.1) this.2
        have hbehind : ∀ (j : Nat) (z : Nat × SV), i < j → ps[j]? = some z → (z.1 ∈ o.looksAt ops ∨ z.1 = y.1) → listed.getD j false = false := fun j z hj hz hzt => by
          cases hc : listed.getD j false with
          | false => rfl
          | true =>
            obtain ⟨oj, h2, h3⟩ := hdst j z hz
            rcases (drawB_spec hB h2).2 i o hj ho with h4 | h4
            · have := listed_WT hcl hc h4
              rw [h1] at this
              cases this
            · have := apart_spec h4.2
              rcases hzt with h5 | h5
              · exact absurd h5 (this.2 z.1 h3)
              · exact absurd (h5 ▸ h3) (this.1 y.1 hst.1).2
        have hsame : ∀ t, (t ∈ o.looksAt ops ∨ t = y.1) → appS (fun k => decide (k < i)) ps 0 σ0 t = appS (fun j => listed.getD j false) ps 0 σ0 t := fun t ht =>
          appS_congr ps 0 σ0 σ0 rfl fun j z hz hzt => by
            subst hzt
            simp only [Nat.zero_add]
            rcases Nat.lt_trichotomy j i with h2 | h2 | h2
            · rw [hbefore j z h2 hz ht]; simp [h2]
            · subst h2
              rw [h1]; simp
            · rw [hbehind j z h2 hz ht]
              have : ¬ j < i := by omega
              simp [this]
        have hst' := stepD_congr hst (fun t ht => hsame t (.inl ht)) (hsame y.1 (.inr rfl))
        have hset : ∀ j, (listed.setIfInBounds i true).getD j false = if j = i then true else listed.getD j false := fun j => by
          by_cases hji : j = i
          · subst hji
            have : j < listed.size := by omega
            simp [this]
          · rw [getD_set_ne false (Ne.symm hji), if_neg hji]
        have hnew : upd (appS (fun j => listed.getD j false) ps 0 σ0) y.1 y.2 = appS (fun j => (listed.setIfInBounds i true).getD j false) ps 0 σ0 := funext fun e => by
          by_cases he : e = y.1
          · subst he
            rw [appS_last ps 0 i σ0 y hy (by simp only [Nat.zero_add]; rw [hset]; simp) fun j z hj hz hze => by
              simp only [Nat.zero_add]
              rw [hset, if_neg (by omega)]
              exact hbehind j z hj hz (.inr hze)]
            simp [upd]
          · simp only [upd, if_neg he]
            refine appS_congr ps 0 σ0 σ0 rfl fun j z hz hze => ?_
            simp only [Nat.zero_add]
            rw [hset, if_neg]
            intro hji
            subst hji
            rw [hy] at hz
            have := Option.some.inj hz
            exact he (by rw [this]; exact hze.symm)
        have hdN : y.1 < N := by
          have := List.all_eq_true.1 hO o (by have := Array.mem_of_getElem? ho; simpa using this)
          rw [hst.1] at this
          simpa using this
        have hrt : ∀ r, rtOf σ0 r = appS (fun j => listed.getD j false) ps 0 σ0 r ∨ rtOf σ0 r = .u := fun r => by
          unfold rtOf
          by_cases hr : isRoot (σ0 r) = true
          · rw [if_pos hr]
            left
            rw [appS_none ps 0 σ0 fun j z hz hzr => by
              have := hroot j z hz
              rw [hzr, hr] at this
              cases this]
          · rw [if_neg hr]; exact .inr rfl
        have := stepD_sound hst' hdN hR hrt (next := wpAny P .any ops Q fuel (listed.setIfInBounds i true)) (Q := Q) fun a' w' L' hR' => by
          rw [hnew] at hR'
          refine ih _ a' w' L' ?_ (by simpa using hs) ?_ ?_ hR'
          · have := cntS_set (S := fun j => listed.getD j false) (S' := fun j => (listed.setIfInBounds i true).getD j false) n hin h1 (by simp only [hset]; simp) fun j hj => by simp only [hset, if_neg hj]
            omega
          · intro j k oj hj hoj hw
            rw [hset] at hj
            have : listed.getD k false = true := by
              by_cases hji : j = i
              · subst hji
                rw [ho] at hoj
                obtain rfl := Option.some.inj hoj
                exact ready_waits hi ho hw
              · rw [if_neg hji] at hj
                exact hcl j k oj hj hoj hw
            exact getD_set_true this
          · intro j hj
            rw [hset] at hj
            by_cases hji : j = i
            · omega
            · rw [if_neg hji] at hj
              exact hln j hj
        unfold wpOp
        rw [ho]
        exact this

/-- **A region in whatever order is sound.** -/
theorem draw_sound {id : Nat} (hm : P.follows .mixedOrders = true) (hB : drawB ops n = true) (hO : opsB N ops.toList = true) (hK : ∀ a w σ L, K σ → Rel P N N w0 A I σ a w L → Q .normal a w) {σ : St} {a : Act} {w : World} {L : Lab} (hR : Rel P N N w0 A I σ a w L)
    (h : pvD P ops (rtOf σ) (ops.toList.take n) σ (fun σ' => pvL P ops (ops.toList.drop n) σ' K)) : (Code.region id ops true).wp P Q a w := by
  refine wp_region_any hm ?_
  have hnle : n ≤ ops.size := by
    have := (Bool.and_eq_true_iff.1 hB).1
    simpa using this
  obtain ⟨ps, h1, h2, h3⟩ := pvD_list _ 0 σ h
  have hno : ∀ j, (Array.replicate ops.size false).getD j false = false := fun j => by
    by_cases hj : j < ops.size
    · simp [hj]
    · simp [hj]
  refine head_sound hB hO hK (σ0 := σ) (ps := ps) (by rw [h1]; simp; omega) (fun j o y ho hy => ?_) h2 ops.size _ a _ L ?_ (by simp) (fun j k oj hj => ?_) (fun j hj => ?_) ?_
  · have hj : j < ps.length := (List.getElem?_eq_some_iff.1 hy).1
    have := h3 j o y (by rw [List.getElem?_take, if_pos (by rw [h1] at hj; simp at hj; omega)]; simpa using ho) hy
    simpa using this
  · have : ∀ n, cntS (fun j => (Array.replicate ops.size false).getD j false) n ≤ n := fun n => by
      induction n with
      | zero => exact Nat.le_refl _
      | succ n ih =>
        simp only [cntS]
        split <;> omega
    have := this n
    omega
  · rw [hno] at hj; cases hj
  · rw [hno] at hj; cases hj
  · rw [show appS (fun j => (Array.replicate ops.size false).getD j false) ps 0 σ = σ from funext fun e => appS_none _ _ _ fun j y _ _ => hno _]
    exact hR.world rfl rfl rfl rfl
end Go.PV
