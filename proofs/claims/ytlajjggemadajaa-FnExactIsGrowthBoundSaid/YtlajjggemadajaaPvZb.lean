/-
  A walk over pure values: regions where the order is open, whole.
  Conditions: none.
-/
import Derived.Test.YtlajjggemadajaaPvZa
set_option linter.all false
namespace Go.PV
variable {P : Program} {N : Nat} {w0 : World} {A : Nat → Prop} {I : List Nat} {ops : Array Oper} {n : Nat} {Q : Exit → Act → World → Prop} {K : St → Prop}

theorem apart_spec {x y : Oper} (h : apartE ops x y = true) : (∀ d, dstE x = some d → d ∉ y.looksAt ops ∧ dstE y ≠ some d) ∧ ∀ d, dstE y = some d → d ∉ x.looksAt ops := by
  unfold apartE at h
  simp only [Bool.and_eq_true] at h
  refine ⟨fun d hd => ?_, fun d hd => ?_⟩
  · have := h.1
    rw [hd] at this
    simpa using this
  · have := h.2
    rw [hd] at this
    simpa using this
/-- No operation makes a reference to a slot that none of its operands leads to. -/
theorem sOp_noref {rt : Nat → SV} {o : Oper} {σ : St} {x : SV} {r : Nat} (h : sOp P (evS σ) rt o (fun z => z = x)) (hr : rt r = .u) (h1 : ∀ s q m, σ s ≠ .ref r q m) (h2 : ∀ g cs, σ r ≠ .ov g cs) : ∀ q m, x ≠ .ref r q m := by
  have ev : ∀ (y : Operand) (q : Path) (m : Option Nat), evS σ y ≠ .ref r q m := fun y q m hy => by
    cases y with
    | tmp t =>
      simp only [evS] at hy
      cases ht : σ t with
      | ov g cs =>
        rw [ht] at hy
        simp only [SV.ref.injEq] at hy
        obtain ⟨rfl, _⟩ := hy
        exact h2 g cs ht
      | ref r' q' m' =>
        rw [ht] at hy
        simp only [SV.ref.injEq] at hy
        obtain ⟨rfl, rfl, rfl⟩ := hy
        exact h1 t _ _ ht
      | d g cs =>
        rw [ht] at hy
        split at hy <;> first | (cases hy; done) | (rename_i heq; cases heq; done) | (rename_i heq _; cases heq; done) | (exfalso; simp_all)
      | _ => rw [ht] at hy; cases hy
    | const v => simp only [evS] at hy; split at hy <;> cases hy
    | global g => cases hy
    | func f => cases hy
  obtain ⟨dst, op, ty, ps, af, gd⟩ := o
  intro q m hx
  subst hx
  have pur : ∀ {v : Value}, SV.p v ≠ .ref r q m := fun h => by cases h
  cases op with
  | move y => simp only [sOp] at h; exact ev _ _ _ h.2
  | pick c y z => simp only [sOp] at h; obtain ⟨t, _, _, h⟩ := h; cases t <;> exact ev _ _ _ h
  | binOp op t y z t2 =>
    simp only [sOp] at h
    unfold binK at h
    split at h
    · obtain ⟨_, h⟩ := h
      unfold intK at h
      split at h <;> first | (cases h; done) | (obtain ⟨_, h⟩ := h; cases h; done) | (obtain ⟨_, _, h⟩ := h; cases h)
    · unfold boolK at h
      split at h <;> first | (obtain ⟨_, h⟩ := h; cases h; done) | (obtain ⟨_, _, h⟩ := h; cases h)
    · unfold strK at h
      split at h <;> first | (cases h; done) | (obtain ⟨_, h⟩ := h; cases h; done) | (obtain ⟨_, _, h⟩ := h; cases h)
    · obtain ⟨_, _, h⟩ := h; cases h
  | unOp uo t y =>
    cases uo <;> simp only [sOp] at h
    · obtain ⟨_, _, _, h⟩ := h; cases h
    · obtain ⟨_, _, h⟩ := h; cases h
  | convert a b y => simp only [sOp] at h; obtain ⟨_, _, h⟩ := h; cases h
  | load t y =>
    simp only [sOp, loadK] at h
    obtain ⟨g, n, _, _, h⟩ := h
    split at h
    · obtain ⟨_, h⟩ := h
      unfold mkD at h
      split at h <;> cases h
    · rename_i r' q' hev
      obtain ⟨cs, h3, _, h⟩ := h
      split at h
      · cases h
      · split at h
        · cases h
        · split at h
          · simp only [SV.ref.injEq] at h
            obtain ⟨rfl, _⟩ := h
            rw [hr] at h3
            simp only [rows1] at h3
            cases q' with
            | nil => simp [getRow] at h3
            | cons a q' => obtain ⟨a1, a2⟩ := a; cases q' <;> simp [getRow] at h3
          · cases h
    · exact h.elim
  | fieldAddr t y k =>
    simp only [sOp] at h
    obtain ⟨off, _, h⟩ := h
    split at h
    · cases h
    · cases h
    · exact h.elim
  | indexAddr t y i =>
    simp only [sOp, idxK] at h
    split at h
    · obtain ⟨_, e, sz, o, rows, row, _, _, _, _, h⟩ := h
      split at h
      · cases h
      · cases h
      · exact h.elim
    · exact h.elim
  | extract y k =>
    simp only [sOp] at h
    obtain ⟨l, z, _, _, h3, h⟩ := h
    subst h
    simp [isDR] at h3
  | alloc t => simp only [sOp] at h; obtain ⟨_, _, h⟩ := h; cases h
  | makeSlice t l c => simp only [sOp] at h; obtain ⟨_, _, _, _, _, _, _, _, _, _, h⟩ := h; cases h
  | buildSlice t n parts => simp only [sOp] at h; obtain ⟨_, _, _, _, _, _, _, _, _, h⟩ := h; cases h
  | slice t y lo hi mx =>
    cases mx with
    | some m => simp [sOp] at h
    | none =>
      simp only [sOp] at h
      split at h
      · obtain ⟨_, _, _, _, _, _, _, _, _, _, h⟩ := h; cases h
      · obtain ⟨_, _, h⟩ := h; cases h
  | build t parts =>
    simp only [sOp] at h
    obtain ⟨cs, _, h⟩ := h
    unfold mkD at h
    split at h <;> cases h
  | makeFunc fn first caps =>
    cases fn with
    | func f => simp only [sOp] at h; obtain ⟨_, _, _, h⟩ := h; cases h
    | _ => simp [sOp] at h
  | field t y k => simp only [sOp] at h; obtain ⟨_, _, h⟩ := h; cases h
  | index t y i => simp only [sOp] at h; obtain ⟨_, _, h⟩ := h; cases h
  | call c =>
    obtain ⟨callee, args, ts⟩ := c
    cases callee with
    | value fn =>
      simp only [sOp] at h
      obtain ⟨f, caps, as, res, _, _, _, _, _, _, h⟩ := h
      cases hv : res.vals with
      | nil => rw [hv] at h; cases h
      | cons a l =>
        rw [hv] at h
        cases l with
        | nil => cases a <;> cases h
        | cons b l => cases h
    | invoke r m => simp only [sOp] at h; obtain ⟨_, _, h⟩ := h; cases h
    | builtin b =>
      cases b with
      | len =>
        simp only [sOp] at h
        obtain ⟨y, t, _, _, h⟩ := h
        unfold lenK at h
        split at h
        · cases h.2
        · obtain ⟨_, _, _, _, h⟩ := h; cases h
      | min => simp only [sOp] at h; obtain ⟨_, _, _, _, _, _, _, _, h⟩ := h; cases h
      | max => simp only [sOp] at h; obtain ⟨_, _, _, _, _, _, _, _, h⟩ := h; cases h
      | _ => simp only [sOp] at h; obtain ⟨_, _, h⟩ := h; cases h
  | _ => simp [sOp] at h

theorem rtOf_S {S : List Nat} {σ : St} {d : Nat} (h : rtOf S σ d = .tup []) : d ∈ S := by
  unfold rtOf at h
  split at h
  · rename_i hc; simpa using hc
  · split at h
    · rename_i hr
      rw [h] at hr; cases hr
    · cases h
theorem rtL_S {S : List Nat} {σ σ' : St} {o : Oper} {r : Nat} (h : r ∈ S) : rtL (rtOf S σ) o σ' r = .u := by
  have : rtOf S σ r = .tup [] := by unfold rtOf; rw [if_pos (by simpa using h)]
  unfold rtL
  rw [this]
def stSlot (ops : Array Oper) (n r : Nat) : Prop := ∃ (j : Nat) (oj : Oper), j < n ∧ ops[j]? = some oj ∧ stOf oj = some r
theorem mem_stSl {ops : Array Oper} {n r : Nat} : r ∈ stSl ops n ↔ stSlot ops n r := by
  unfold stSl stSlot
  simp only [List.mem_filterMap, List.mem_range, Option.bind_eq_some_iff]
  constructor
  · rintro ⟨j, h1, oj, h2, h3⟩; exact ⟨j, oj, h1, h2, h3⟩
  · rintro ⟨j, oj, h1, h2, h3⟩; exact ⟨j, h1, oj, h2, h3⟩
theorem head_sound (hB : drawB ops n = true) (hO : opsB N ops.toList = true) (hK : ∀ a w σ L, K σ → Rel P N N w0 A I σ a w L → Q .normal a w) {σ0 : St} {ps : List (Nat × SV)} (hps : ps.length = n) (hhid : hid (stSl ops n) σ0)
    (hstep : ∀ j o y, ops[j]? = some o → ps[j]? = some y → stepD P ops (rtOf (stSl ops n) σ0) o (appS (fun i => decide (i < j)) ps 0 σ0) y.1 y.2) (hfin : pvL P ops (ops.toList.drop n) (appS (fun _ => true) ps 0 σ0) K) :
    ∀ (fuel : Nat) (listed : Array Bool) (a : Act) (w : World) (L : Lab), cntS (fun j => listed.getD j false) n + (ops.size - n) ≤ fuel → listed.size = ops.size →
    (∀ j k oj, listed.getD j false = true → ops[j]? = some oj → waitsOn oj k = true → listed.getD k false = true) → (∀ j, listed.getD j false = true → j < n) → (∀ r, stSlot ops n r → ∀ s q m, appS (fun j => listed.getD j false) ps 0 σ0 s ≠ .ref r q m) →
    Rel P N N w0 A I (appS (fun j => listed.getD j false) ps 0 σ0) a w L → wpAny P .any ops Q fuel listed a w := by
  have hnle : n ≤ ops.size := by
    have := (Bool.and_eq_true_iff.1 (Bool.and_eq_true_iff.1 hB).1).1
    simpa using this
  have hroot : ∀ (j : Nat) (z : Nat × SV), ps[j]? = some z → isRoot (σ0 z.1) = false ∨ z.1 ∈ stSl ops n := by
    intro j
    induction j using Nat.strongRecOn with
    | ind j ih =>
      intro z hz
      have hj : j < ps.length := (List.getElem?_eq_some_iff.1 hz).1
      have hjo : j < ops.size := by omega
      rcases hstep j ops[j] z (by simp [hjo]) hz with ⟨_, _, h1, _⟩ | ⟨_, _, h1, _⟩
      rotate_left
      · exact .inr (rtOf_S h1)
      by_cases hx : ∃ (j' : Nat) (z' : Nat × SV), j' < j ∧ ps[j']? = some z' ∧ z'.1 = z.1
      · obtain ⟨j', z', h2, h3, h4⟩ := hx
        rw [← h4]
        exact ih j' h2 z' h3
      · rw [appS_none ps 0 σ0 fun j' z' h2 h3 => by
          have : ¬ j' < j := fun h4 => hx ⟨j', z', h4, h2, h3⟩
          simpa using this] at h1
        exact .inl h1
  intro fuel
  induction fuel with
  | zero =>
    intro listed a w L hf hs hcl hln hnr hR
    have hall : ∀ j, j < n → listed.getD j false = true := fun j hj => by
      cases hc : listed.getD j false with
      | true => rfl
      | false =>
        have := cntS_set (S := fun j => listed.getD j false) (S' := fun k => if k = j then true else listed.getD k false) n hj hc (by simp) fun k hk => by simp [hk]
        omega
    rw [show appS (fun j => listed.getD j false) ps 0 σ0 = appS (fun _ => true) ps 0 σ0 from funext fun e => appS_congr ps 0 σ0 σ0 rfl fun j y hj _ => by
      have : j < ps.length := (List.getElem?_eq_some_iff.1 hj).1
      have := hall j (by omega)
      simpa using this] at hR
    refine tail_sound hB hO hK 0 n listed a w _ L (Nat.le_refl _) (by omega) hnle hs (fun j hj => ?_) hR hfin
    by_cases hjn : j < n
    · rw [hall j hjn]; simp [hjn]
    · cases hc : listed.getD j false with
      | true => exact absurd (hln j hc) hjn
      | false => simp [hjn]
  | succ fuel ih =>
    intro listed a w L hf hs hcl hln hnr hR
    by_cases hall : ∀ j, j < n → listed.getD j false = true
    · rw [show appS (fun j => listed.getD j false) ps 0 σ0 = appS (fun _ => true) ps 0 σ0 from funext fun e => appS_congr ps 0 σ0 σ0 rfl fun j y hj _ => by
        have : j < ps.length := (List.getElem?_eq_some_iff.1 hj).1
        have := hall j (by omega)
        simpa using this] at hR
      refine tail_sound hB hO hK (fuel + 1) n listed a w _ L (Nat.le_refl _) (by omega) hnle hs (fun j hj => ?_) hR hfin
      by_cases hjn : j < n
      · rw [hall j hjn]; simp [hjn]
      · cases hc : listed.getD j false with
        | true => exact absurd (hln j hc) hjn
        | false => simp [hjn]
    · have hex : ∃ j, j < n ∧ listed.getD j false = false := by
        refine Classical.byContradiction fun hno => hall fun j hj => ?_
        cases hc : listed.getD j false with
        | true => rfl
        | false => exact absurd ⟨j, hj, hc⟩ hno
      obtain ⟨j0, hj0, hc0⟩ := hex
      refine ⟨fun hr => ?_, fun i hi => ?_⟩
      · obtain ⟨j, h1, h2, h3⟩ := least (p := fun j => !listed.getD j false) n ⟨j0, hj0, by simp only [hc0]; rfl⟩
        have := ready_least hB (j := j) (listed := listed) (by omega) (by rw [not_listed hs (by omega)]; simpa using h2) fun k hk => by simpa using h3 k hk
        rw [hr] at this
        simp at this
      · obtain ⟨h1, o, ho, _⟩ := mem_ready.1 hi
        have hlt : i < ops.size := (Array.getElem?_eq_some_iff.1 ho).1
        rw [not_listed hs hlt] at h1
        have hin : i < n := by
          rcases Nat.lt_or_ge i n with h2 | h2
          · exact h2
          · rcases (drawB_spec hB ho).2 j0 ops[j0] (by omega) (by simp [show j0 < ops.size by omega]) with h3 | h3
            · have := ready_WT hcl hi h3
              rw [hc0] at this
              cases this
            · omega
        obtain ⟨y, hy⟩ : ∃ y, ps[i]? = some y := ⟨ps[i], by simp [hps, hin]⟩
        have hst := hstep i o y ho hy
        have hdst : ∀ (j : Nat) (z : Nat × SV), ps[j]? = some z → ∃ oj, ops[j]? = some oj ∧ dstE oj = some z.1 := fun j z hz => by
          have hj : j < ps.length := (List.getElem?_eq_some_iff.1 hz).1
          have hjo : j < ops.size := by omega
          exact ⟨ops[j], by simp [hjo], stepD_dst (hstep j ops[j] z (by simp [hjo]) hz)⟩
        have hbefore : ∀ (j : Nat) (z : Nat × SV), j < i → ps[j]? = some z → (z.1 ∈ o.looksAt ops ∨ z.1 = y.1) → listed.getD j false = true := fun j z hj hz hzt => by
          obtain ⟨oj, h2, h3⟩ := hdst j z hz
          rcases (drawB_spec hB ho).2 j oj hj h2 with h4 | h4
          · exact ready_WT hcl hi h4
          · have := (apart_spec h4.2).1 z.1 h3
            rcases hzt with h5 | h5
            · exact absurd h5 this.1
            · exact absurd (h5 ▸ stepD_dst hst) this.2
        have hbehind : ∀ (j : Nat) (z : Nat × SV), i < j → ps[j]? = some z → (z.1 ∈ o.looksAt ops ∨ z.1 = y.1) → listed.getD j false = false := fun j z hj hz hzt => by
          cases hc : listed.getD j false with
          | false => rfl
          | true =>
            obtain ⟨oj, h2, h3⟩ := hdst j z hz
            rcases (drawB_spec hB h2).2 i o hj ho with h4 | h4
            · have := listed_WT hcl hc h4
              rw [h1] at this
              cases this
            · have := apart_spec h4.2
              rcases hzt with h5 | h5
              · exact absurd h5 (this.2 z.1 h3)
              · exact absurd (h5 ▸ h3) (this.1 y.1 (stepD_dst hst)).2
        have hsame : ∀ t, (t ∈ o.looksAt ops ∨ t = y.1) → appS (fun k => decide (k < i)) ps 0 σ0 t = appS (fun j => listed.getD j false) ps 0 σ0 t := fun t ht =>
          appS_congr ps 0 σ0 σ0 rfl fun j z hz hzt => by
            subst hzt
            simp only [Nat.zero_add]
            rcases Nat.lt_trichotomy j i with h2 | h2 | h2
            · rw [hbefore j z h2 hz ht]; simp [h2]
            · subst h2
              rw [h1]; simp
            · rw [hbehind j z h2 hz ht]
              have : ¬ j < i := by omega
              simp [this]
        have hst' := stepD_congr hst (fun t ht => hsame t (.inl ht)) (hsame y.1 (.inr rfl))
        have hset : ∀ j, (listed.setIfInBounds i true).getD j false = if j = i then true else listed.getD j false := fun j => by
          by_cases hji : j = i
          · subst hji
            have : j < listed.size := by omega
            simp [this]
          · rw [getD_set_ne false (Ne.symm hji), if_neg hji]
        have hnew : upd (appS (fun j => listed.getD j false) ps 0 σ0) y.1 y.2 = appS (fun j => (listed.setIfInBounds i true).getD j false) ps 0 σ0 := funext fun e => by
          by_cases he : e = y.1
          · subst he
            rw [appS_last ps 0 i σ0 y hy (by simp only [Nat.zero_add]; rw [hset]; simp) fun j z hj hz hze => by
              simp only [Nat.zero_add]
              rw [hset, if_neg (by omega)]
              exact hbehind j z hj hz (.inr hze)]
            simp [upd]
          · simp only [upd, if_neg he]
            refine appS_congr ps 0 σ0 σ0 rfl fun j z hz hze => ?_
            simp only [Nat.zero_add]
            rw [hset, if_neg]
            intro hji
            subst hji
            rw [hy] at hz
            have := Option.some.inj hz
            exact he (by rw [this]; exact hze.symm)
        have hdN : y.1 < N := by
          rcases hst' with ⟨h5, _⟩ | ⟨_, _, _, t, x, g, n', old, v, _, _, _, h5, _⟩
          · have := List.all_eq_true.1 hO o (by have := Array.mem_of_getElem? ho; simpa using this)
            rw [h5] at this
            simpa using this
          · rcases Nat.lt_or_ge y.1 N with h6 | h6
            · exact h6
            · have := hR.out y.1 h6; rw [h5] at this; cases this
        have hnr1 : ∀ d, stOf o = some d → ∀ s q m, appS (fun j => listed.getD j false) ps 0 σ0 s ≠ .ref d q (some m) := fun d hd s q m => by
          rcases hst' with ⟨_, h5, _⟩ | ⟨_, _, h5, t, x, g, n', old, v, h6, _⟩
          · rw [h5] at hd; cases hd
          · have : stOf o = some y.1 := by simp [stOf, h6]
            rw [this] at hd
            obtain rfl := Option.some.inj hd
            exact hnr y.1 ⟨i, o, hin, ho, this⟩ s q (some m)
        have hnov : ∀ r, stSlot ops n r → ∀ g cs, appS (fun j => listed.getD j false) ps 0 σ0 r ≠ .ov g cs := fun r hsl g cs hov => by
          obtain ⟨j0, o0, hj0, ho0, hst0⟩ := hsl
          rcases appS_or (S := fun j => listed.getD j false) (e := r) ps 0 σ0 with h5 | ⟨j, z, h5, h6, h7⟩
          · have h8 : isRoot (σ0 r) = true := by rw [← h5, hov]; rfl
            have := (hhid r (mem_stSl.2 ⟨j0, o0, hj0, ho0, hst0⟩) h8).1
            rw [← h5, hov] at this; cases this
          · rw [hov] at h7
            have hj : j < ps.length := (List.getElem?_eq_some_iff.1 h5).1
            have hjo : j < ops.size := by omega
            have hsj := hstep j ops[j] z (by simp [hjo]) h5
            have hal := drawB_store hB ho0 hj0 hst0 (k := j) (ok := ops[j]) (by simp [hjo]) (by omega) (by rw [stepD_dst hsj, h6])
            rcases hsj with ⟨_, h8, _, h9⟩ | ⟨_, _, _, t, x, g', n', old, v, _, _, _, _, _, _, _, _, _, h9⟩
            · rcases hal with rfl | hal
              · have : ops[j] = o0 := by
                  have := (Array.getElem?_eq_some_iff.1 ho0).2
                  exact this
                rw [this, hst0] at h8; cases h8
              · rcases gOp_or h9 with ⟨h10, _⟩ | ⟨h10, _⟩
                · cases hop : ops[j].op with
                  | alloc t =>
                    rw [hop] at h10
                    simp only [sOp, hop] at h10
                    obtain ⟨cs', _, h11⟩ := h10
                    rw [← h7] at h11; cases h11
                  | _ => rw [hop] at hal; cases hal
                · rw [← h7] at h10; cases h10
            · rw [← h7] at h9; cases h9
        have hnr2 : ∀ r, stSlot ops n r → ∀ q m, y.2 ≠ .ref r q m := fun r hsl q m hy2 => by
          rcases hst' with ⟨_, _, _, h9⟩ | ⟨_, _, _, t, x, g', n', old, v, _, _, _, _, _, _, _, _, _, h9⟩
          · rcases gOp_or h9 with ⟨h10, _⟩ | ⟨h10, _⟩
            · cases hop : o.op with
              | assign x =>
                rw [hop] at h10
                obtain ⟨v, _, h11⟩ := h10
                rw [hy2] at h11; cases h11
              | _ =>
                rw [hop] at h10
                exact sOp_noref h10 (rtL_S (mem_stSl.2 hsl)) (fun s q m => hnr r hsl s q m) (hnov r hsl) q m hy2
            · rw [hy2] at h10; cases h10
          · rw [hy2] at h9; cases h9
        have hrt : ∀ r, rtOf (stSl ops n) σ0 r = appS (fun j => listed.getD j false) ps 0 σ0 r ∨ rtOf (stSl ops n) σ0 r = .u ∨ rtOf (stSl ops n) σ0 r = .tup [] := fun r => by
          unfold rtOf
          by_cases hS : (stSl ops n).contains r = true
          · rw [if_pos hS]; exact .inr (.inr rfl)
          · rw [if_neg hS]
            have hrS : r ∉ stSl ops n := by simpa using hS
            by_cases hr : isRoot (σ0 r) = true
            · rw [if_pos hr]
              left
              rw [appS_none ps 0 σ0 fun j z hz hzr => by
                rcases hroot j z hz with this | this
                · rw [hzr, hr] at this
                  cases this
                · rw [hzr] at this; exact absurd this hrS]
            · rw [if_neg hr]; exact .inr (.inl rfl)
        have := stepD_sound hst' hdN hR hrt hnr1 (next := wpAny P .any ops Q fuel (listed.setIfInBounds i true)) (Q := Q) fun a' w' L' hR' => by
          rw [hnew] at hR'
          refine ih _ a' w' L' ?_ (by simpa using hs) ?_ ?_ ?_ hR'
          · have := cntS_set (S := fun j => listed.getD j false) (S' := fun j => (listed.setIfInBounds i true).getD j false) n hin h1 (by simp only [hset]; simp) fun j hj => by simp only [hset, if_neg hj]
            omega
          · intro j k oj hj hoj hw
            rw [hset] at hj
            have : listed.getD k false = true := by
              by_cases hji : j = i
              · subst hji
                rw [ho] at hoj
                obtain rfl := Option.some.inj hoj
                exact ready_waits hi ho hw
              · rw [if_neg hji] at hj
                exact hcl j k oj hj hoj hw
            exact getD_set_true this
          · intro j hj
            rw [hset] at hj
            by_cases hji : j = i
            · omega
            · rw [if_neg hji] at hj
              exact hln j hj
          · intro r hsl s q m
            rw [← hnew]
            unfold upd
            split
            · exact hnr2 r hsl q m
            · exact hnr r hsl s q m
        unfold wpOp
        rw [ho]
        exact this

/-- **A region in whatever order is sound.** -/
theorem draw_sound {id : Nat} (hm : P.follows .mixedOrders = true) (hB : drawB ops n = true) (hO : opsB N ops.toList = true) (hK : ∀ a w σ L, K σ → Rel P N N w0 A I σ a w L → Q .normal a w) {σ : St} {a : Act} {w : World} {L : Lab} (hR : Rel P N N w0 A I σ a w L)
    (hhid : hid (stSl ops n) σ) (h : pvD P ops (rtOf (stSl ops n) σ) (ops.toList.take n) σ (fun σ' => pvL P ops (ops.toList.drop n) σ' K)) : (Code.region id ops true).wp P Q a w := by
  refine wp_region_any hm ?_
  have hnle : n ≤ ops.size := by
    have := (Bool.and_eq_true_iff.1 (Bool.and_eq_true_iff.1 hB).1).1
    simpa using this
  obtain ⟨ps, h1, h2, h3⟩ := pvD_list _ 0 σ h
  have hno : ∀ j, (Array.replicate ops.size false).getD j false = false := fun j => by
    by_cases hj : j < ops.size
    · simp [hj]
    · simp [hj]
  refine head_sound hB hO hK (σ0 := σ) (ps := ps) (by rw [h1]; simp; omega) hhid (fun j o y ho hy => ?_) h2 ops.size _ a _ L ?_ (by simp) (fun j k oj hj => ?_) (fun j hj => ?_) (fun r hsl s q m => ?_) ?_
  · have hj : j < ps.length := (List.getElem?_eq_some_iff.1 hy).1
    have := h3 j o y (by rw [List.getElem?_take, if_pos (by rw [h1] at hj; simp at hj; omega)]; simpa using ho) hy
    simpa using this
  · have : ∀ n, cntS (fun j => (Array.replicate ops.size false).getD j false) n ≤ n := fun n => by
      induction n with
      | zero => exact Nat.le_refl _
      | succ n ih =>
        simp only [cntS]
        split <;> omega
    have := this n
    omega
  · rw [hno] at hj; cases hj
  · rw [hno] at hj; cases hj
  · rw [show appS (fun j => (Array.replicate ops.size false).getD j false) ps 0 σ = σ from funext fun e => appS_none _ _ _ fun j y _ _ => hno _]
    intro hs
    have := hR.slot s
    rw [hs] at this
    have h5 := this.1
    exact (hhid r (mem_stSl.2 hsl) h5).2 s q m hs
  · rw [show appS (fun j => (Array.replicate ops.size false).getD j false) ps 0 σ = σ from funext fun e => appS_none _ _ _ fun j y _ _ => hno _]
    exact hR.world rfl rfl rfl rfl
end Go.PV
