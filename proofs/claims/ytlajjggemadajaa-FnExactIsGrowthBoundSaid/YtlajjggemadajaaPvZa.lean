/-
  A walk over pure values: regions where the order is open.
  Conditions: none.
-/
import Derived.Test.YtlajjggemadajaaPvZ
set_option linter.all false
namespace Go.PV
variable {P : Program} {N : Nat} {w0 : World} {A : Nat → Prop} {I : List Nat}

/-- What stands in the slots when S has been done. -/
def appS (S : Nat → Bool) : List (Nat × SV) → Nat → St → St
  | [], _, σ => σ
  | y :: l, k, σ => appS S l (k + 1) (if S k then upd σ y.1 y.2 else σ)

theorem appS_congr {S S' : Nat → Bool} {e : Nat} : ∀ (l : List (Nat × SV)) (k : Nat) (σ σ' : St), σ e = σ' e → (∀ j y, l[j]? = some y → y.1 = e → S (k + j) = S' (k + j)) → appS S l k σ e = appS S' l k σ' e
  | [], _, _, _, h, _ => h
  | y :: l, k, σ, σ', h, hs => by
    simp only [appS]
    refine appS_congr l (k + 1) _ _ ?_ fun j z hz hze => by
      have := hs (j + 1) z (by simpa using hz) hze
      rw [show k + 1 + j = k + (j + 1) from by omega]; exact this
    by_cases hy : y.1 = e
    · have := hs 0 y rfl hy
      simp only [Nat.add_zero] at this
      rw [this]
      by_cases h2 : S' k = true
      · simp [h2, upd, hy]
      · simp [h2, h]
    · have : ∀ (b : Bool) (τ : St), (if b then upd τ y.1 y.2 else τ) e = τ e := fun b τ => by
        cases b
        · rfl
        · simp [upd, Ne.symm hy]
      rw [this, this]; exact h

theorem appS_none {S : Nat → Bool} {e : Nat} (l : List (Nat × SV)) (k : Nat) (σ : St) (h : ∀ j y, l[j]? = some y → y.1 = e → S (k + j) = false) : appS S l k σ e = σ e := by
  rw [appS_congr (S' := fun _ => false) l k σ σ rfl h]
  clear h
  induction l generalizing k with
  | nil => rfl
  | cons y l ih => exact ih (k + 1)

/-- What stands in a slot was there, or was written. -/
theorem appS_or {S : Nat → Bool} {e : Nat} : ∀ (l : List (Nat × SV)) (k : Nat) (σ : St), appS S l k σ e = σ e ∨ ∃ (j : Nat) (y : Nat × SV), l[j]? = some y ∧ y.1 = e ∧ appS S l k σ e = y.2
  | [], _, _ => .inl rfl
  | x :: l, k, σ => by
    simp only [appS]
    rcases appS_or (S := S) (e := e) l (k + 1) (if S k then upd σ x.1 x.2 else σ) with h | ⟨j, y, h1, h2, h3⟩
    · rw [h]
      by_cases hS : S k = true
      · rw [if_pos hS]
        by_cases he : e = x.1
        · right; exact ⟨0, x, rfl, he.symm, by simp [upd, he]⟩
        · left; simp [upd, he]
      · rw [if_neg hS]; exact .inl rfl
    · exact .inr ⟨j + 1, y, by simpa using h1, h2, h3⟩
/-- The last that writes e. -/
theorem appS_last {S : Nat → Bool} : ∀ (l : List (Nat × SV)) (k i : Nat) (σ : St) (y : Nat × SV), l[i]? = some y → S (k + i) = true → (∀ j z, i < j → l[j]? = some z → z.1 = y.1 → S (k + j) = false) → appS S l k σ y.1 = y.2
  | [], _, _, _, _, h, _, _ => by simp at h
  | x :: l, k, 0, σ, y, h, hs, hn => by
    simp at h
    subst h
    simp only [appS]
    rw [appS_none l (k + 1) _ fun j z hz hze => by rw [show k + 1 + j = k + (j + 1) from by omega]; exact hn (j + 1) z (by omega) (by simpa using hz) hze]
    rw [if_pos (by simpa using hs)]
    simp [upd]
  | x :: l, k, i + 1, σ, y, h, hs, hn => by
    simp only [appS]
    refine appS_last l (k + 1) i _ y (by simpa using h) (by rw [show k + 1 + i = k + (i + 1) from by omega]; exact hs) fun j z hj hz hze => ?_
    rw [show k + 1 + j = k + (j + 1) from by omega]
    exact hn (j + 1) z (by omega) (by simpa using hz) hze

/-- The walk in the text's order tells what each writes. -/
theorem pvD_list {ops : Array Oper} {rt : Nat → SV} {K : St → Prop} : ∀ (l : List Oper) (k : Nat) (σ : St), pvD P ops rt l σ K →
    ∃ ps : List (Nat × SV), ps.length = l.length ∧ K (appS (fun _ => true) ps k σ) ∧ ∀ j o y, l[j]? = some o → ps[j]? = some y → stepD P ops rt o (appS (fun i => decide (i < k + j)) ps k σ) y.1 y.2
  | [], k, σ, h => ⟨[], rfl, h, by simp⟩
  | o :: l, k, σ, h => by
    obtain ⟨d, x, h1, h2⟩ := dOp_step (K := fun σ' => pvD P ops rt l σ' K) h
    obtain ⟨ps, h3, h4, h5⟩ := pvD_list l (k + 1) _ h2
    refine ⟨(d, x) :: ps, by simp [h3], h4, fun j o' y ho hy => ?_⟩
    cases j with
    | zero =>
      simp at ho hy
      subst ho hy
      have : appS (fun i => decide (i < k + 0)) ((d, x) :: ps) k σ = σ := funext fun e => appS_none _ _ _ fun j y _ _ => by simp
      rw [this]; exact h1
    | succ j =>
      have := h5 j o' y (by simpa using ho) (by simpa using hy)
      simp only [appS]
      rw [show k + (j + 1) = k + 1 + j from by omega, if_pos (by simp; omega)]
      exact this

def cntS (S : Nat → Bool) : Nat → Nat
  | 0 => 0
  | n + 1 => cntS S n + (if S n then 0 else 1)
theorem cntS_congr {S S' : Nat → Bool} : ∀ n, (∀ j, j < n → S j = S' j) → cntS S n = cntS S' n
  | 0, _ => rfl
  | n + 1, h => by simp only [cntS]; rw [cntS_congr n fun j hj => h j (by omega), h n (by omega)]
theorem cntS_set {S S' : Nat → Bool} {i : Nat} : ∀ n, i < n → S i = false → S' i = true → (∀ j, j ≠ i → S' j = S j) → cntS S' n + 1 = cntS S n
  | 0, h, _, _, _ => by omega
  | n + 1, h, h1, h2, h3 => by
    simp only [cntS]
    by_cases hi : i = n
    · subst hi
      rw [h1, h2, cntS_congr i fun j hj => h3 j (by omega)]
      simp
    · have := cntS_set n (by omega) h1 h2 h3
      rw [h3 n (Ne.symm hi)]
      omega

theorem least {p : Nat → Bool} : ∀ n, (∃ j, j < n ∧ p j = true) → ∃ j, j < n ∧ p j = true ∧ ∀ k, k < j → p k = false
  | 0, ⟨_, h, _⟩ => by omega
  | n + 1, ⟨j, hj, hp⟩ => by
    by_cases h : ∃ j, j < n ∧ p j = true
    · obtain ⟨j, h1, h2⟩ := least n h
      exact ⟨j, by omega, h2⟩
    · refine ⟨j, hj, hp, fun k hk => ?_⟩
      cases hpk : p k with
      | false => rfl
      | true => exact absurd ⟨k, by omega, hpk⟩ h

theorem waits_iff {o : Oper} {k : Nat} : waitsOn o k = true ↔ ∃ e ∈ o.after, Region.binds .any e = true ∧ e.on = k := by
  unfold waitsOn
  rw [Array.any_eq_true]
  constructor
  · rintro ⟨i, h, h1⟩
    simp at h1
    exact ⟨o.after[i], Array.getElem_mem h, h1⟩
  · rintro ⟨e, he, h1, h2⟩
    obtain ⟨i, h, rfl⟩ := Array.mem_iff_getElem.1 he
    exact ⟨i, h, by simp [h1, h2]⟩

section
variable {ops : Array Oper} {n : Nat} {Q : Exit → Act → World → Prop} {K : St → Prop}

/-- One waits for another, through others too. -/
inductive WT (ops : Array Oper) : Nat → Nat → Prop where
  | one {j k : Nat} {o : Oper} (h : ops[j]? = some o) (hw : waitsOn o k = true) : WT ops j k
  | more {j i k : Nat} {o : Oper} (h : ops[j]? = some o) (hw : waitsOn o i = true) (ht : WT ops i k) : WT ops j k
theorem maskOf_bit {ms : List Nat} {o : Oper} {k : Nat} (h : (maskOf ms o).testBit k = true) : ∃ i, waitsOn o i = true ∧ (i = k ∨ (ms.getD i 0).testBit k = true) := by
  have key : ∀ (l : List Edge) (s : Nat), (∀ e ∈ l, e ∈ o.after) → (l.foldl (fun s e => if Region.binds .any e then s ||| (2 ^ e.on ||| ms.getD e.on 0) else s) s).testBit k = true →
      s.testBit k = true ∨ ∃ i, waitsOn o i = true ∧ (i = k ∨ (ms.getD i 0).testBit k = true) := by
    intro l
    induction l with
    | nil => exact fun s _ h => .inl h
    | cons e l ih =>
      intro s hl h
      simp only [List.foldl_cons] at h
      rcases ih _ (fun e he => hl e (by simp [he])) h with h1 | h1
      · by_cases hb : Region.binds .any e = true
        · rw [if_pos hb] at h1
          rw [Nat.testBit_or, Nat.testBit_or, Bool.or_eq_true, Bool.or_eq_true] at h1
          have hw : waitsOn o e.on = true := waits_iff.2 ⟨e, hl e (by simp), hb, rfl⟩
          rcases h1 with h1 | h1 | h1
          · exact .inl h1
          · rw [Nat.testBit_two_pow] at h1
            exact .inr ⟨e.on, hw, .inl (by simpa using h1)⟩
          · exact .inr ⟨e.on, hw, .inr h1⟩
        · rw [if_neg hb] at h1; exact .inl h1
      · exact .inr h1
  rcases key o.after.toList 0 (fun e he => by simpa using he) h with h1 | h1
  · simp at h1
  · exact h1
theorem masks_spec : ∀ (l : List Oper) (pre : List Oper) (ms : List Nat), ops.toList = pre ++ l → ms.length = pre.length → (∀ j k, (ms.getD j 0).testBit k = true → WT ops j k) → ∀ j k, ((masks l ms).getD j 0).testBit k = true → WT ops j k
  | [], pre, ms, _, _, h => h
  | o :: l, pre, ms, he, hl, h => by
    refine masks_spec l (pre ++ [o]) (ms ++ [maskOf ms o]) (by simp [he]) (by simp [hl]) fun j k hjk => ?_
    by_cases hj : j < ms.length
    · have e : (ms ++ [maskOf ms o]).getD j 0 = ms.getD j 0 := by simp [List.getD, List.getElem?_append_left hj]
      rw [e] at hjk; exact h j k hjk
    · by_cases hj2 : j = ms.length
      · subst hj2
        have e : (ms ++ [maskOf ms o]).getD ms.length 0 = maskOf ms o := by simp [List.getD]
        rw [e] at hjk
        have ho : ops[ms.length]? = some o := by
          have : ops.toList[ms.length]? = some o := by rw [he, hl]; simp
          simpa using this
        obtain ⟨i, h1, h2⟩ := maskOf_bit hjk
        rcases h2 with rfl | h2
        · exact .one ho h1
        · exact .more ho h1 (h i k h2)
      · have e : (ms ++ [maskOf ms o]).getD j 0 = 0 := by
          have : (ms ++ [maskOf ms o]).length ≤ j := by simp; omega
          simp [List.getD, List.getElem?_eq_none this]
        rw [e] at hjk; simp at hjk
theorem drawB_spec (h : drawB ops n = true) {j : Nat} {oj : Oper} (hj : ops[j]? = some oj) :
    (∀ e ∈ oj.after, Region.binds .any e = true → e.on < j) ∧ ∀ k ok, k < j → ops[k]? = some ok → WT ops j k ∨ (j < n ∧ apartE ops ok oj = true) := by
  have hlt : j < ops.size := (Array.getElem?_eq_some_iff.1 hj).1
  have := List.all_eq_true.1 (Bool.and_eq_true_iff.1 (Bool.and_eq_true_iff.1 h).1).2 j (List.mem_range.2 hlt)
  rw [hj] at this
  simp only [Bool.and_eq_true] at this
  refine ⟨fun e he hb => ?_, fun k ok hk hok => ?_⟩
  · have h1 := (Array.all_eq_true_iff_forall_mem.1 this.1) e he
    simpa [hb] using h1
  · have h1 := List.all_eq_true.1 this.2 k (List.mem_range.2 hk)
    rw [hok] at h1
    simp only [Bool.or_eq_true, Bool.and_eq_true, decide_eq_true_eq] at h1
    rcases h1 with h1 | h1 | h1
    · exact .inl (.one hj h1)
    · exact .inr h1
    · exact .inl (masks_spec ops.toList [] [] rfl rfl (fun j k h => by simp at h) j k h1)

theorem drawB_store (h : drawB ops n = true) {j d : Nat} {oj : Oper} (hj : ops[j]? = some oj) (hjn : j < n) (hst : stOf oj = some d) {k : Nat} {ok : Oper} (hk : ops[k]? = some ok) (hkn : k < n) (hd : dstE ok = some d) : k = j ∨ isAl ok.op = true := by
  have := List.all_eq_true.1 (Bool.and_eq_true_iff.1 h).2 j (List.mem_range.2 hjn)
  rw [hj] at this
  simp only [Option.bind_some, hst] at this
  have h2 := List.all_eq_true.1 this k (List.mem_range.2 hkn)
  rw [hk] at h2
  simp only [Bool.or_eq_true, beq_iff_eq, hd, bne_self_eq_false, Bool.false_eq_true, false_or] at h2
  exact h2
theorem not_listed {listed : Array Bool} (hs : listed.size = ops.size) {j : Nat} (hj : j < ops.size) : listed.getD j true = listed.getD j false := by
  have : j < listed.size := by omega
  simp [this]

/-- What is ready waits on nothing that is not done. -/
theorem ready_waits {listed : Array Bool} {i k : Nat} {oi : Oper} (hi : i ∈ Region.ready .any ops listed) (ho : ops[i]? = some oi) (h : waitsOn oi k = true) : listed.getD k false = true := by
  obtain ⟨_, o, h1, h2⟩ := mem_ready.1 hi
  rw [ho] at h1
  obtain rfl := Option.some.inj h1
  obtain ⟨e, he, hb, rfl⟩ := waits_iff.1 h
  exact h2 e he hb

theorem ready_WT {listed : Array Bool} (hcl : ∀ j k oj, listed.getD j false = true → ops[j]? = some oj → waitsOn oj k = true → listed.getD k false = true) {i k : Nat} (hi : i ∈ Region.ready .any ops listed) (h : WT ops i k) : listed.getD k false = true := by
  have clo : ∀ j k, WT ops j k → listed.getD j false = true → listed.getD k false = true := by
    intro j k h
    induction h with
    | one h hw => exact fun hj => hcl _ _ _ hj h hw
    | more h hw _ ih => exact fun hj => ih (hcl _ _ _ hj h hw)
  cases h with
  | one h hw => exact ready_waits hi h hw
  | more h hw ht => exact clo _ _ ht (ready_waits hi h hw)
theorem listed_WT {listed : Array Bool} (hcl : ∀ j k oj, listed.getD j false = true → ops[j]? = some oj → waitsOn oj k = true → listed.getD k false = true) {j k : Nat} (hj : listed.getD j false = true) (h : WT ops j k) : listed.getD k false = true := by
  induction h with
  | one h hw => exact hcl _ _ _ hj h hw
  | more h hw _ ih => exact ih (hcl _ _ _ hj h hw)
theorem ready_least (hB : drawB ops n = true) {listed : Array Bool} {j : Nat} (hj : j < ops.size) (hl : listed.getD j true = false) (hk : ∀ k, k < j → listed.getD k false = true) : j ∈ Region.ready .any ops listed := by
  refine mem_ready.2 ⟨hl, ops[j], by simp [hj], fun e he hb => hk _ ?_⟩
  exact (drawB_spec hB (oj := ops[j]) (by simp [hj])).1 e he hb

/-- The tail: each waits on all before it. -/
theorem tail_sound (hB : drawB ops n = true) (hO : opsB N ops.toList = true) (hK : ∀ a w σ L, K σ → Rel P N N w0 A I σ a w L → Q .normal a w) :
    ∀ (fuel m : Nat) (listed : Array Bool) (a : Act) (w : World) (σ : St) (L : Lab), n ≤ m → ops.size - m ≤ fuel → m ≤ ops.size → listed.size = ops.size →
    (∀ j, j < ops.size → listed.getD j false = decide (j < m)) → Rel P N N w0 A I σ a w L → pvL P ops (ops.toList.drop m) σ K → wpAny P .any ops Q fuel listed a w := by
  intro fuel
  induction fuel with
  | zero =>
    intro m listed a w σ L hnm hf hm hs hl hR h
    refine ⟨?_, ?_⟩
    · cases hr : Region.ready .any ops listed with
      | nil => rfl
      | cons i r =>
        have hi : i ∈ Region.ready .any ops listed := by rw [hr]; simp
        obtain ⟨h1, o, ho, _⟩ := mem_ready.1 hi
        have hlt : i < ops.size := (Array.getElem?_eq_some_iff.1 ho).1
        rw [not_listed hs hlt, hl i hlt] at h1
        simp at h1
        omega
    · rw [List.drop_of_length_le (by simp; omega)] at h
      exact hK a w σ L h hR
  | succ fuel ih =>
    intro m listed a w σ L hnm hf hm hs hl hR h
    have hcase : m = ops.size ∨ m < ops.size := by omega
    refine ⟨fun hr => ?_, fun i hi => ?_⟩
    · rcases hcase with hc | hc
      · rw [List.drop_of_length_le (by simp; omega)] at h
        exact hK a w σ L h hR
      · have := ready_least hB hc (by rw [not_listed hs hc, hl m hc]; simp) fun k hk => by rw [hl k (by omega)]; simpa using hk
        rw [hr] at this
        simp at this
    · obtain ⟨h1, o, ho, _⟩ := mem_ready.1 hi
      have hlt : i < ops.size := (Array.getElem?_eq_some_iff.1 ho).1
      rw [not_listed hs hlt, hl i hlt] at h1
      have hmi : m ≤ i := by simpa using h1
      have him : i = m := by
        rcases Nat.lt_or_ge m i with h2 | h2
        · have hm' : m < ops.size := by omega
          rcases (drawB_spec hB ho).2 m ops[m] h2 (by simp [hm']) with h3 | h3
          · have hcl : ∀ j k oj, listed.getD j false = true → ops[j]? = some oj → waitsOn oj k = true → listed.getD k false = true := fun j k oj hj hoj hw => by
              have hjs : j < ops.size := (Array.getElem?_eq_some_iff.1 hoj).1
              rw [hl j hjs] at hj
              obtain ⟨e, he, hb, rfl⟩ := waits_iff.1 hw
              have := (drawB_spec hB hoj).1 e he hb
              rw [hl e.on (by omega)]
              simp at hj ⊢
              omega
            have := ready_WT hcl hi h3
            rw [hl m hm'] at this
            simp at this
          · omega
        · omega
      subst him
      have hd : ops.toList.drop i = o :: ops.toList.drop (i + 1) := by
        rw [List.drop_eq_getElem_cons (by simpa using hlt)]
        congr 1
        have := (Array.getElem?_eq_some_iff.1 ho).2
        simpa using this
      rw [hd] at h
      have hdst : ∀ d, o.dst = some d → d < N := fun d hd => by
        have := List.all_eq_true.1 hO o (by have := Array.mem_of_getElem? ho; simpa using this)
        rw [hd] at this
        simpa using this
      have next : ∀ a' w' σ' L', pvL P ops (ops.toList.drop (i + 1)) σ' K → Rel P N N w0 A I σ' a' w' L' → wpAny P .any ops Q fuel (listed.setIfInBounds i true) a' w' := fun a' w' σ' L' h1 h2 =>
        ih (i + 1) _ a' w' σ' L' (by omega) (by omega) (by omega) (by simpa using hs) (fun j hj => by
          by_cases hji : j = i
          · subst hji
            have : j < listed.size := by omega
            simp [this]
          · rw [getD_set_ne false (Ne.symm hji), hl j hj]
            simp
            omega) h2 h1
      unfold wpOp
      rw [ho]
      rcases gOp_ok hR h with ⟨h4, h5⟩ | ⟨h4, h5⟩
      · simp only [h4, if_true]
        exact .inl (pvOp_sound hR hdst h5 fun a' w' σ' L' h6 h7 => next a' w' σ' L' h6 h7)
      · simp only [h4, Bool.false_eq_true, if_false]
        obtain ⟨L', h6⟩ := putO_ok (tv := undef) (sv := .p (.tuple #[])) hR.up rfl o.dst hdst
        exact next _ _ _ L' h5 h6
end
end Go.PV
