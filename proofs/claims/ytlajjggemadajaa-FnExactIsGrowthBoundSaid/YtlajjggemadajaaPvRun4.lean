/-
  A walk over pure values: code by rules over lists of slots; loops that are reckoned.
  Conditions: none.
-/
import Derived.Test.YtlajjggemadajaaPvRun3
set_option linter.all false
namespace Go.PV
variable {P : Program} {N : Nat}

abbrev LS := List (Nat × SV)
def refsOk (l : LS) : Bool := l.all fun x => refOk (l.map (·.1)) x.2
def readL (σ : St) (l : LS) : LS := l.map fun x => (x.1, σ x.1)
theorem agree_read {σ : St} {l : LS} (h1 : refsOk l = true) (h2 : readL σ l = l) : agree l σ := by
  refine ⟨h1, ?_⟩
  clear h1
  have : ∀ (l' : LS), (∀ x ∈ readL σ l', x ∈ l' ) → True := fun _ _ => trivial
  unfold readL at h2
  intro x hx
  have key : ∀ (l : LS), l.map (fun x => (x.1, σ x.1)) = l → ∀ x ∈ l, σ x.1 = x.2 := by
    intro l
    induction l with
    | nil => simp
    | cons y l ih =>
      intro h x hx
      simp only [List.map_cons, List.cons.injEq] at h
      rcases List.mem_cons.1 hx with rfl | hx
      · exact congrArg Prod.snd h.1
      · exact ih h.2 x hx
  exact key l h2 x hx

/-- The list l says what l' says. -/
def wk (l l' : LS) : Prop := agree l' (ofL l)
theorem wk_of {l l' : LS} (h1 : refsOk l' = true) (h2 : readL (ofL l) l' = l') : wk l l' := agree_read h1 h2

def OkL (P : Program) (N : Nat) (c : Code) (l : LS) (Q : Ex → LS → Prop) : Prop :=
  Ok P N c (ofL l) fun e σ => ∃ l', (σ = ofL l' ∨ agree l' σ) ∧ Q e l'

theorem OkL.mono {c : Code} {l : LS} {Q Q' : Ex → LS → Prop} (h : OkL P N c l Q) (hq : ∀ e l, Q e l → Q' e l) : OkL P N c l Q' := fun hB w0 A a w L hR =>
  wp_mono (h hB w0 A a w L hR) fun e a w h => by
    cases e <;> first | exact h.elim | (obtain ⟨σ, L, h1, l', h2, h3⟩ := h; exact ⟨σ, L, h1, l', h2, hq _ _ h3⟩)
theorem OkL.weak {c : Code} {l l' : LS} {Q : Ex → LS → Prop} (h : OkL P N c l' Q) (hw : wk l l') : OkL P N c l Q := fun hB w0 A a w L hR =>
  h hB w0 A a w L (agree_rel hR hw)

/-- What comes behind. -/
def seqL (K : LS → Prop) (Q : Ex → LS → Prop) : Ex → LS → Prop := fun e l => match e with
  | .normal => K l
  | e => Q e l
def blockL (id : Nat) (Q : Ex → LS → Prop) : Ex → LS → Prop := fun e l => match e with
  | .exit i => if i = id then Q .normal l else Q (.exit i) l
  | e => Q e l

theorem k_seq {a b : Code} {l : LS} {Q : Ex → LS → Prop} (h : OkL P N a l (seqL (fun l' => OkL P N b l' Q) Q)) : OkL P N (.seq a b) l Q := fun hB w0 A x w L hR => by
  simp only [codeB, Bool.and_eq_true] at hB
  refine wp_seq (wp_mono (h hB.1 w0 A x w L hR) fun e x w h => ?_)
  cases e with
  | normal =>
    obtain ⟨σ, L, h1, l', h2, h3⟩ := h
    refine h3 hB.2 w0 A x w L ?_
    rcases h2 with rfl | h2
    · exact h1
    · exact agree_rel h1 h2
  | exit id => exact h
  | ret => exact h
  | _ => exact h.elim
theorem k_skip {l : LS} {Q : Ex → LS → Prop} (h : Q .normal l) : OkL P N .skip l Q := fun _ w0 A a w L hR => wp_skip ⟨_, L, hR, l, .inl rfl, h⟩
theorem k_exit {id : Nat} {l : LS} {Q : Ex → LS → Prop} (h : Q (.exit id) l) : OkL P N (.exit id) l Q := fun _ w0 A a w L hR => wp_exit ⟨_, L, hR, l, .inl rfl, h⟩
theorem k_ret {l : LS} {Q : Ex → LS → Prop} (h : Q .ret l) : OkL P N .ret l Q := fun _ w0 A a w L hR => wp_ret ⟨_, L, hR, l, .inl rfl, h⟩
theorem k_cond {c : Operand} {b : Bool} {x y : Code} {l : LS} {Q : Ex → LS → Prop} (hc : evS (ofL l) c = .p (.bool b)) (h1 : b = true → OkL P N x l Q) (h2 : b = false → OkL P N y l Q) : OkL P N (.cond c x y) l Q := fun hB w0 A a w L hR => by
  simp only [codeB, Bool.and_eq_true] at hB
  refine wp_cond (evS_p hR hc) ?_
  cases b
  · exact h2 rfl hB.2 w0 A a w L hR
  · exact h1 rfl hB.1 w0 A a w L hR
theorem k_block {id : Nat} {c : Code} {l : LS} {Q : Ex → LS → Prop} (h : OkL P N c l (blockL id Q)) : OkL P N (.block id c) l Q := fun hB w0 A a w L hR => by
  refine wp_block (wp_mono (h hB w0 A a w L hR) fun e a w h => ?_)
  cases e with
  | normal => exact h
  | exit i =>
    obtain ⟨σ', L', h1, l', h2, h3⟩ := h
    simp only [Exit.inBlock]
    unfold blockL at h3
    split
    · rename_i hi
      simp only [hi, if_true] at h3
      exact ⟨σ', L', h1, l', h2, h3⟩
    · rename_i hi
      simp only [hi, if_false] at h3
      exact ⟨σ', L', h1, l', h2, h3⟩
  | ret => exact h
  | _ => exact h.elim
/-- Ways that meet again. -/
theorem k_join {X : Type} {a b : Code} {l : LS} {Q : Ex → LS → Prop} (J : X → LS) (K : X → Prop) (hb : ∀ x, K x → OkL P N b (J x) Q) (ha : OkL P N a l (seqL (fun l' => ∃ x, K x ∧ wk l' (J x)) Q)) : OkL P N (.seq a b) l Q :=
  k_seq (ha.mono fun e l' h => by
    cases e with
    | normal => obtain ⟨x, h1, h2⟩ := h; exact (hb x h1).weak h2
    | _ => exact h)

/-! ### a box whose address is caught: it is frozen -/
def ptBox : SV → SV
  | .box cs => .d false [.pt (eraR cs)]
  | x => x
theorem Rel.learn {M : Nat} {w0 : World} {A : Nat → Prop} {I : List Nat} {σ : St} {a : Act} {w : World} {L : Lab} {r : Nat} {sv : SV} (hR : Rel P N M w0 A I σ a w L) (hr : r < N) (hu : σ r = .u) (hn : refOf sv = none) (hl : isLab sv = false)
    (hs : ∀ (tm : Nat → Value) (σ : St) (s : Nat), RelS P (Zof w0 A L w) L w tm σ s (a.tmps.getD r undef) sv) : Rel P N M w0 A I (fun s => if s = r then sv else σ s) a w L := by
  refine ⟨hR.dfr, hR.siz, hR.ev, hR.inj, hR.lab, fun s h => ?_, hR.hA, fun s => ?_⟩
  · have : s ≠ r := by omega
    simp only [if_neg this]; exact hR.out s h
  · by_cases h : s = r
    · subst h; simp only [if_true]; exact hs _ _ _
    · simp only [if_neg h]
      refine (hR.slot s).keep (fun b h => ⟨h, rfl⟩) (fun b q _ h => ⟨h, rfl⟩) fun x hx hrt => ?_
      have hxr : x ≠ r := by rintro rfl; rw [hu] at hrt; cases hrt
      exact ⟨fun _ _ h => ⟨h, rfl⟩, rfl, by simp only [if_neg hxr]; exact hrt, by simp only [if_neg hxr]⟩
theorem Rel.frzBox {w0 : World} {A : Nat → Prop} {σ : St} {a : Act} {w : World} {L : Lab} {r : Nat} {cs : List C} (hR : Rel P N N w0 A [] σ a w L) (hr : σ r = .box cs) :
    ∃ L', Rel P N N w0 A [] (fun s => if s = r then .d false [.pt (eraR cs)] else killSV r (σ s)) a w L' := by
  have hrN : r < N := by
    rcases Nat.lt_or_ge r N with h | h
    · exact h
    · have := hR.out r h; rw [hr] at this; cases this
  have h1 := hR.take (r := r) (f := fun _ => none) (Nat.le_refl N) rfl fun q l h => by cases h
  refine ⟨mapL L r (fun _ => none), ?_⟩
  have h2 := h1.learn (r := r) (sv := .d false [.pt (eraR cs)]) hrN (by simp [gone]) rfl rfl (fun tm σ' s => by
    have hs := hR.slot r
    rw [hr] at hs
    obtain ⟨b, e1, e2, arr, e, e3, e4, e5⟩ := hs
    show FrzV _ _ false (a.tmps.getD r undef) [.pt (eraR cs)]
    have hz : ∀ b', Zof w0 A L w b' → Zof w0 A (mapL L r fun _ => none) w b' ∧ w.heap[b']? = w.heap[b']? := fun b' h => ⟨⟨by simp [mapL, h.1], h.2⟩, rfl⟩
    have hnew : ∀ b' q, L b' = some (r, q) → Zof w0 A (mapL L r fun _ => none) w b' ∧ w.heap[b']? = w.heap[b']? := fun b' q h => by
      have := hR.lab b' _ h
      refine ⟨⟨by simp [mapL, h], this.1, .inr ?_⟩, rfl⟩
      rcases this.2.1 with h | ⟨h, _⟩
      · exact h
      · cases h
    rw [show a.tmps.getD r undef = .pointer (some ⟨b, 0, none⟩) from e1]
    refine ⟨⟨rfl, rfl⟩, fun j c hj => ?_⟩
    cases j with
    | succ j => simp at hj
    | zero =>
      simp at hj
      subst hj
      refine .pt (fun j => arr.getD j undef) (hnew b _ e2).1 (fun j c hj => ?_) fun j c hj => ?_
      · obtain ⟨c0, h3, rfl⟩ := eraR_get hj
        have hlt : j < arr.size := by rw [e4]; exact (List.getElem?_eq_some_iff.1 h3).1
        simp [World.cell?, e3, hlt]
      · obtain ⟨c0, h3, rfl⟩ := eraR_get hj
        exact (e5 j c0 h3).freeze hz fun b' q hb => hnew b' _ hb)
  have e : (fun s => if s = r then SV.d false [.pt (eraR cs)] else gone σ r s) = fun s => if s = r then .d false [.pt (eraR cs)] else killSV r (σ s) := by
    funext s
    unfold gone
    split <;> rfl
  rw [e] at h2
  exact h2
/-- A box is frozen: its slot holds a pointer to what stays as it is. -/
theorem k_frz {c : Code} {l : LS} {Q : Ex → LS → Prop} (r : Nat) (cs cs' : List C) (l' : LS) (hr : ofL l r = .box cs) (he : eraR cs = cs') (h1 : refsOk l' = true) (h2 : readL (fun s => if s = r then .d false [.pt cs'] else killSV r (ofL l s)) l' = l') (h : OkL P N c l' Q) : OkL P N c l Q := fun hB w0 A a w L hR => by
  obtain ⟨L', h3⟩ := hR.frzBox hr
  rw [he] at h3
  exact h hB w0 A a w L' (agree_rel h3 (agree_read h1 h2))

/-! ### exits -/
theorem q_n {K : LS → Prop} {Q : Ex → LS → Prop} {l : LS} (h : K l) : seqL K Q .normal l := h
theorem q_x {K : LS → Prop} {Q : Ex → LS → Prop} {i : Nat} {l : LS} (h : Q (.exit i) l) : seqL K Q (.exit i) l := h
theorem q_r {K : LS → Prop} {Q : Ex → LS → Prop} {l : LS} (h : Q .ret l) : seqL K Q .ret l := h
theorem b_n {Q : Ex → LS → Prop} {i : Nat} {l : LS} (h : Q .normal l) : blockL i Q .normal l := h
theorem b_r {Q : Ex → LS → Prop} {i : Nat} {l : LS} (h : Q .ret l) : blockL i Q .ret l := h
theorem b_x {Q : Ex → LS → Prop} {i : Nat} {l : LS} (h : Q .normal l) : blockL i Q (.exit i) l := by simpa [blockL] using h
theorem b_y {Q : Ex → LS → Prop} {i j : Nat} {l : LS} (hn : (i == j) = false) (h : Q (.exit i) l) : blockL j Q (.exit i) l := by
  have : ¬ i = j := by simpa using hn
  simpa [blockL, this] using h

/-! ### regions -/
def RegOk (P : Program) (N : Nat) (c : Code) (l0 l1 : LS) : Prop := ∀ Q : Ex → LS → Prop, Q .normal l1 → OkL P N c l0 Q
def xGo (P : Program) (ops : List Oper) (hs : List (Nat × HH)) (l0 l1 : LS) : Option (LS × List Prop) := match xL P ops.toArray hs 0 ops (ofL l0) with
  | some (σ', obs) => if refsOk l1 = true then some (readL σ' l1, obs) else none
  | none => none
theorem r_go {id : Nat} {ops : List Oper} {l0 : LS} (l1 : LS) (hs : List (Nat × HH)) (obs : List Prop) (e : xGo P ops hs l0 l1 = some (l1, obs)) (ho : allP obs) : RegOk P N (.region id ops.toArray false) l0 l1 := by
  intro Q hq
  refine Ok_of_pvC _ _ _ ?_
  show pvL P ops.toArray ops.toArray.toList (ofL l0) _
  rw [List.toList_toArray]
  unfold xGo at e
  split at e
  · rename_i σ' obs' h1
    split at e
    · rename_i hr
      simp only [Option.some.injEq, Prod.mk.injEq] at e
      obtain ⟨h2, rfl⟩ := e
      exact xL_ok _ _ _ _ _ h1 ho ⟨l1, .inr (agree_read hr h2), hq⟩
    · cases e
  · cases e
/-- No slot leads to what lies at r. -/
def notRefTo (r : Nat) : SV → Bool
  | .ref r' _ _ => r' != r
  | _ => true
def hidB (S : List Nat) (l : LS) : Bool := S.all fun r => !isRoot (ofL l r) || (isBox (ofL l r) && l.all fun x => notRefTo r x.2)
theorem ofL_mem : ∀ (l : LS) (s : Nat), ofL l s = .u ∨ ∃ x ∈ l, ofL l s = x.2
  | [], _ => .inl rfl
  | (k, x) :: l, s => by
    simp only [ofL, upd]
    by_cases h : s = k
    · rw [if_pos h]; exact .inr ⟨(k, x), List.mem_cons_self, rfl⟩
    · rw [if_neg h]
      rcases ofL_mem l s with h1 | ⟨y, h1, h2⟩
      · exact .inl h1
      · exact .inr ⟨y, List.mem_cons_of_mem _ h1, h2⟩
theorem hidB_ok {S : List Nat} {l : LS} (h : hidB S l = true) : hid S (ofL l) := by
  intro r hr hroot
  have h1 := List.all_eq_true.1 h r hr
  rw [hroot] at h1
  simp only [Bool.not_true, Bool.false_or, Bool.and_eq_true] at h1
  refine ⟨h1.1, fun s q m he => ?_⟩
  rcases ofL_mem l s with h2 | ⟨x, h2, h3⟩
  · rw [he] at h2; cases h2
  · have h4 := List.all_eq_true.1 h1.2 x h2
    rw [← h3, he] at h4
    simp [notRefTo] at h4
def xGoD (P : Program) (n : Nat) (ops : List Oper) (hs : List (Nat × HH)) (l0 l1 : LS) : Option (LS × List Prop) := if (drawB ops.toArray n && hidB (stSl ops.toArray n) l0) = true then (match xD P ops.toArray (rtOf (stSl ops.toArray n) (ofL l0)) hs 0 (ops.take n) (ofL l0) with
  | some (σ', o1) => (match xL P ops.toArray hs n (ops.drop n) σ' with
    | some (σ2, o2) => if refsOk l1 = true then some (readL σ2 l1, o1 ++ o2) else none
    | none => none)
  | none => none) else none
theorem r_draw {id : Nat} {ops : List Oper} {l0 : LS} (hm : P.follows .mixedOrders = true) (n : Nat) (l1 : LS) (hs : List (Nat × HH)) (obs : List Prop) (e : xGoD P n ops hs l0 l1 = some (l1, obs)) (ho : allP obs) : RegOk P N (.region id ops.toArray true) l0 l1 := by
  intro Q hq
  refine Ok_of_pvC _ _ _ ?_
  unfold xGoD at e
  split at e
  · rename_i hB
    simp only [Bool.and_eq_true] at hB
    refine ⟨hm, n, hB.1, hidB_ok hB.2, ?_⟩
    rw [List.toList_toArray]
    split at e
    · rename_i σ' o1 h1
      split at e
      · rename_i σ2 o2 h2
        split at e
        · rename_i hr
          simp only [Option.some.injEq, Prod.mk.injEq] at e
          obtain ⟨h3, rfl⟩ := e
          rw [allP_append] at ho
          exact xD_ok _ _ _ _ _ h1 ho.1 (xL_ok _ _ _ _ _ h2 ho.2 ⟨l1, .inr (agree_read hr h3), hq⟩)
        · cases e
      · cases e
    · cases e
  · cases e
theorem k_reg {c : Code} {l0 l1 : LS} {Q : Ex → LS → Prop} (h : RegOk P N c l0 l1) (hq : Q .normal l1) : OkL P N c l0 Q := h Q hq
theorem k_sreg {c b : Code} {l0 l1 : LS} {Q : Ex → LS → Prop} (h : RegOk P N c l0 l1) (hq : OkL P N b l1 Q) : OkL P N (.seq c b) l0 Q := k_seq (h _ hq)

/-! ### loops -/
section
variable {X Y : Type}
def iterO (body : X → Option (X ⊕ Y)) : Nat → X → Option Y
  | 0, _ => none
  | n + 1, x => match body x with
    | some (.inl x') => iterO body n x'
    | some (.inr y) => some y
    | none => none
open Classical in
/-- A loop: again and again, till the body says what comes out. -/
noncomputable def loopO (body : X → Option (X ⊕ Y)) (x : X) : Option Y := if h : ∃ n y, iterO body n x = some y then some (Classical.choose (Classical.choose_spec h)) else none
theorem iterO_uniq {body : X → Option (X ⊕ Y)} : ∀ (n m : Nat) (x : X) (y y' : Y), iterO body n x = some y → iterO body m x = some y' → y = y'
  | 0, _, _, _, _, h, _ => by cases h
  | _ + 1, 0, _, _, _, _, h => by cases h
  | n + 1, m + 1, x, y, y', h1, h2 => by
    simp only [iterO] at h1 h2
    split at h1
    · rename_i x' hb
      rw [hb] at h2
      exact iterO_uniq n m x' y y' h1 h2
    · rename_i z hb
      rw [hb] at h2
      exact Option.some.inj (h1.symm.trans h2)
    · cases h1
theorem loopO_some {body : X → Option (X ⊕ Y)} {x : X} {y : Y} : loopO body x = some y ↔ ∃ n, iterO body n x = some y := by
  unfold loopO
  constructor
  · intro h
    split at h
    · rename_i hx
      have := Classical.choose_spec (Classical.choose_spec hx)
      simp only [Option.some.injEq] at h
      rw [h] at this
      exact ⟨_, this⟩
    · cases h
  · rintro ⟨n, hn⟩
    have hx : ∃ n y, iterO body n x = some y := ⟨n, y, hn⟩
    rw [dif_pos hx]
    exact congrArg some (iterO_uniq _ _ _ _ _ (Classical.choose_spec (Classical.choose_spec hx)) hn)
theorem loopO_eq (body : X → Option (X ⊕ Y)) (x : X) : loopO body x = match body x with
    | some (.inl x') => loopO body x'
    | some (.inr y) => some y
    | none => none := by
  apply Option.ext
  intro y
  rw [loopO_some]
  constructor
  · rintro ⟨n, hn⟩
    cases n with
    | zero => cases hn
    | succ n =>
      simp only [iterO] at hn
      split at hn
      · exact loopO_some.2 ⟨n, hn⟩
      · exact hn
      · cases hn
  · intro h
    split at h
    · rename_i x' hb
      obtain ⟨n, hn⟩ := loopO_some.1 h
      exact ⟨n + 1, by simp only [iterO, hb]; exact hn⟩
    · rename_i z hb
      exact ⟨1, by simp only [iterO, hb]; exact h⟩
    · cases h
def loopQ (o : X ⊕ Y) (J : X → LS) (Q : Ex → LS → Prop) : Ex → LS → Prop := fun e l' => match e with
  | .normal => ∃ x', o = .inl x' ∧ wk l' (J x')
  | e => Q e l'
theorem k_loop {c : Code} {l : LS} {Q : Ex → LS → Prop} {body : X → Option (X ⊕ Y)} {x0 : X} {y : Y} (J : X → LS) (h : loopO body x0 = some y) (h0 : wk l (J x0))
    (hr : ∀ x o, body x = some o → (∀ y', o = .inr y' → y' = y) → OkL P N c (J x) (loopQ o J Q)) : OkL P N (.loop c) l Q := by
  refine OkL.weak ?_ h0
  intro hB w0 A a w L hR
  obtain ⟨n, hn⟩ := loopO_some.1 h
  refine wp_loop_x (X := X × Nat) (fun z a w => iterO body z.2 z.1 = some y ∧ ∃ L, Rel P N N w0 A [] (ofL (J z.1)) a w L) (fun z => z.2) (x0, n) ⟨hn, L, hR⟩ fun z a w ⟨hz, L, hR⟩ => ?_
  obtain ⟨x, m⟩ := z
  cases m with
  | zero => cases hz
  | succ m =>
    simp only [iterO] at hz
    have go : ∀ o, body x = some o → (∀ x', o = .inl x' → iterO body m x' = some y) → (∀ y', o = .inr y' → y' = y) → c.wp P (Exit.then (fun a' w' => ∃ z' : X × Nat, (iterO body z'.2 z'.1 = some y ∧ ∃ L, Rel P N N w0 A [] (ofL (J z'.1)) a' w' L) ∧ z'.2 < m + 1) (lift P N w0 A [] fun e σ => ∃ l', (σ = ofL l' ∨ agree l' σ) ∧ Q e l')) a w := fun o hb h1 h2 => by
      refine wp_mono (hr x o hb h2 hB w0 A a w L hR) fun e a w h => ?_
      cases e with
      | normal =>
        obtain ⟨σ, L, h3, l', h4, x', h5, h6⟩ := h
        refine ⟨(x', m), ⟨h1 x' h5, L, ?_⟩, Nat.lt_succ_self m⟩
        rcases h4 with rfl | h4
        · exact agree_rel h3 h6
        · exact agree_rel (agree_rel h3 h4) h6
      | exit id => exact h
      | ret => exact h
      | _ => exact h.elim
    split at hz
    · rename_i x' hb
      exact go _ hb (fun x'' h => by cases h; exact hz) (fun y' h => by cases h)
    · rename_i y' hb
      exact go _ hb (fun x'' h => by cases h) (fun y'' h => by cases h; exact Option.some.inj hz)
    · cases hz
end
theorem lq_n {X Y : Type} {o : X ⊕ Y} {J : X → LS} {Q : Ex → LS → Prop} {l : LS} (x' : X) (h1 : o = .inl x') (h2 : wk l (J x')) : loopQ o J Q .normal l := ⟨x', h1, h2⟩
theorem lq_x {X Y : Type} {o : X ⊕ Y} {J : X → LS} {Q : Ex → LS → Prop} {l : LS} {i : Nat} (h : Q (.exit i) l) : loopQ o J Q (.exit i) l := h
theorem lq_r {X Y : Type} {o : X ⊕ Y} {J : X → LS} {Q : Ex → LS → Prop} {l : LS} (h : Q .ret l) : loopQ o J Q .ret l := h

/-! ### a function -/
def endL (P : Program) (fn : Func) (args : List Arg) (res : Res) : Ex → LS → Prop
  | .exit _, _ => False
  | _, l => ∃ ls, retVs P (ofL l) fn.results.toList = some ls ∧ ovOk ls = true ∧ ls.map (·.1) = res.vals ∧ outsOf (ofL l) ((List.range args.length).zip args) = some res.outs
end Go.PV
